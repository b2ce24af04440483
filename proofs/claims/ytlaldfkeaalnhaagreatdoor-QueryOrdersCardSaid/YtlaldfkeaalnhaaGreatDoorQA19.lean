/- ask: the parser's steps: size, item. -/
import Derived.Test.YtlaldfkeaalnhaaGreatDoorQA12
import Derived.Test.YtlaldfkeaalnhaaGreatDoorQA04
import Derived.Test.YtlaldfkeaalnhaaGreatDoorQA16
namespace Go.Proofs.YtlaldfkeaalnhaaGreatDoor
set_option linter.unusedSimpArgs false
set_option linter.unusedVariables false
open Go.RowKit
set_option linter.all false
def SizeRes (B : Nat) (w0 : World) (R : Item) (gt gp : Nat) (M : List Item) (r : Option (Int × List Tk)) (e : Ending) (w' : World) : Prop := match r with
  | some (n, r) => e = .returned (.int .i64 n) ∧ ∃ y', PAt B w0 R gt gp r y' ∧ Hp B w0 w' (y' :: R :: M)
  | none => Fails e ∧ Hp B w0 w' M
theorem g2 {B : Nat} {w0 W : World} {a : Item} {L : List Item} (h : Hp B w0 W (a :: L)) : Hp B w0 W L := h.tail
theorem g2e {B : Nat} {w0 W : World} {a y R : Item} {M : List Item} (h : Hp B w0 W (a :: y :: R :: M)) : Hp B w0 W [R] := gsub1 (g2 h)
set_option maxRecDepth 100000 in
set_option maxHeartbeats 8000000 in
theorem size_any {B : Nat} {w0 w : World} {R : Item} {gt gp : Nat} {l : List Tk} {y : Item} {M : List Item} (most : Int) (hE : EnvA B w0 R) (hl : EndT l) (hok : ∀ t ∈ l, TkOk 5000 t) (hP : PAt B w0 R gt gp l y) (hS : Hp B w0 w (y :: R :: M)) :
    Calls Tryz.prog 45 #[.pointer (some ⟨gp, 0, none⟩), .int .i64 most] w (SizeRes B w0 R gt gp M (sizeP most l)) := by
  have HFL := Lib.hid (fun (er : Int) (W : World) (h : Hp B w0 W (y :: R :: M)) => fail_any er hl.ne hP h)
  obtain ⟨off, n, cap, q, rfl, hn, hc, hc2, rfl, hT⟩ := hP
  cases q with
  | nil => exact absurd rfl hl.ne
  | cons x q =>
    have HRD := Lib.hid hT.hd
    have HTL := Lib.hid hT.tl
    obtain ⟨k1, k5, ksz, k3⟩ := hok x.1 (by simp)
    have HPI := Lib.hid (fun (W : World) (h : Hp B w0 W [R]) => parseInt_all x.1.text (by omega) W (hE W h).2.1 (hE W h).2.2)
    have hE1 : x.1.kind ≠ 5 → EndT (q.map (·.1)) := fun h => EndT.tl (by simpa using hl) h
    have hn0 : 0 < n := by rw [← hn]; simp
    have hq : q.length = n - 1 := by rw [← hn]; simp
    have hE2 : x.1.kind ≠ 5 → 1 ≤ q.length := fun h => by
      have := (hE1 h).ne
      cases q with
      | nil => exact absurd rfl this
      | cons _ _ => simp
    clear hE hT hn hl hE1 hok
    obtain ⟨⟨kd, tx⟩, pos⟩ := x
    simp only at HRD HPI hE2 ksz k3 k1 k5
    obtain ⟨D, hD⟩ : ∃ D, D = sizeP most (((⟨kd, tx⟩, pos) :: q : List (Tk × Nat)).map (·.1)) := ⟨_, rfl⟩
    rw [← hD]
    by_cases hk2 : kd = 2
    · have hq1 := hE2 (by omega)
      have h1 : 1 ≤ n := by omega
      have h1c : 1 ≤ cap := by omega
      subst hk2
      clear hE2 k3 k1 k5
      ((try clear hF); refine hfI ?_; intro hF)
      go_enter Tryz.func45, Tryz.ntmps45
      go_upto_region 5 with (first | (refine hab ?_; (try clear hF); clear hS; intro wk hS; (try simp only [List.set_cons_zero, List.set_cons_succ, heap_size, heap_set_size] at hS); ((try clear hF); refine hfI ?_; intro hF)) | (go_at_call 74; (with_reducible refine Calls.mono (HPI.out _ (g2e hS)) ?_); rintro e wk ⟨⟨v, er, rfl, hend⟩, hX⟩; replace hS := hS.step hX; clear hX; ((try clear hF); refine hfI ?_; intro hF)))
      have HE := Lib.hid hend
      clear hend
      rcases HE.out with ⟨rfl, h2⟩ | ⟨⟨tp, pv, rfl⟩, h2⟩
      · by_cases hv1 : v < 1
        · obtain rfl : D = none := by rw [hD]; simp [sizeP, h2, hv1]
          clear HPI HE h2 hD HTL
          ((try clear hF); refine hfI ?_; intro hF)
          go_wp2_with (first | (refine hab ?_; (try clear hF); clear hS; intro wk hS; (try simp only [List.set_cons_zero, List.set_cons_succ, heap_size, heap_set_size] at hS); ((try clear hF); refine hfI ?_; intro hF)) | (go_at_call 70; (with_reducible refine (HFL.out _ _ (g2 hS)).mono ?_); rintro e wk ⟨⟨tp2, pv2, rfl⟩, hX⟩; replace hS := hS.step hX; clear hX))
          exact ⟨rfl, ⟨_, _, rfl⟩, grest1 (g2 hS)⟩
        · by_cases hv2 : most < v
          · obtain rfl : D = none := by rw [hD]; simp [sizeP, h2, hv2]
            clear HPI HE h2 hD HTL
            ((try clear hF); refine hfI ?_; intro hF)
            go_wp2_with (first | (refine hab ?_; (try clear hF); clear hS; intro wk hS; (try simp only [List.set_cons_zero, List.set_cons_succ, heap_size, heap_set_size] at hS); ((try clear hF); refine hfI ?_; intro hF)) | (go_at_call 70; (with_reducible refine (HFL.out _ _ (g2 hS)).mono ?_); rintro e wk ⟨⟨tp2, pv2, rfl⟩, hX⟩; replace hS := hS.step hX; clear hX))
            exact ⟨rfl, ⟨_, _, rfl⟩, grest1 (g2 hS)⟩
          · obtain rfl : D = some (v, q.map (·.1)) := by rw [hD]; simp [sizeP, h2, hv1, hv2]
            clear HFL HPI HE h2 hD
            ((try clear hF); refine hfI ?_; intro hF)
            go_wp2_with (first | (refine hab ?_; (try clear hF); clear hS; intro wk hS; (try simp only [List.set_cons_zero, List.set_cons_succ, heap_size, heap_set_size] at hS); ((try clear hF); refine hfI ?_; intro hF)) | fail)
            go_ret
            exact ⟨rfl, _, ⟨off + 3, n - 1, cap - 1, q, rfl, hq, by omega, by omega, rfl, HTL.out⟩, g2 hS⟩
      · obtain rfl : D = none := by rw [hD]; simp [sizeP, h2]
        clear HPI HE h2 hD HTL
        ((try clear hF); refine hfI ?_; intro hF)
        go_wp2_with (first | (refine hab ?_; (try clear hF); clear hS; intro wk hS; (try simp only [List.set_cons_zero, List.set_cons_succ, heap_size, heap_set_size] at hS); ((try clear hF); refine hfI ?_; intro hF)) | (go_at_call 70; (with_reducible refine (HFL.out _ _ (g2 hS)).mono ?_); rintro e wk ⟨⟨tp2, pv2, rfl⟩, hX⟩; replace hS := hS.step hX; clear hX))
        exact ⟨rfl, ⟨_, _, rfl⟩, grest1 (g2 hS)⟩
    · have q2 : (kd != 2) = true := by simp [hk2]
      obtain rfl : D = none := by rw [hD]; simp [sizeP, hk2]
      clear HPI hD HTL k3 k1 k5 hE2 hk2
      ((try clear hF); refine hfI ?_; intro hF)
      go_enter Tryz.func45, Tryz.ntmps45
      go_wp2_with (first | (refine hab ?_; (try clear hF); clear hS; intro wk hS; (try simp only [List.set_cons_zero, List.set_cons_succ, heap_size, heap_set_size] at hS); ((try clear hF); refine hfI ?_; intro hF)) | (go_at_call 70; (with_reducible refine (HFL.out _ _ (g2 hS)).mono ?_); rintro e wk ⟨⟨tp2, pv2, rfl⟩, hX⟩; replace hS := hS.step hX; clear hX))
      exact ⟨rfl, ⟨_, _, rfl⟩, grest1 (g2 hS)⟩
/-- the functions' names, in the program's variable -/
def FnsAt (w : World) : Prop := ∀ j, j < 4 → w.cell? ⟨0, j, none⟩ = some (.string (fns4.getD j ByteArray.empty))
theorem FnsAt.ext {w w' : World} (h : FnsAt w) (hx : Ext w w') : FnsAt w' := fun j hj => hx.keeps (h j hj)
theorem fns_any (s : ByteArray) (w : World) (h : FnsAt w) : Calls Tryz.prog 23 #[.slice (some ⟨0, 0, none⟩) 4 4, .string s] w fun e w' => e = .returned (.bool (Lib.containsS fns4 s)) ∧ Ext w w' :=
  (Tryz.slices_Contains_string 0 0 4 4 fns4 s w (by decide) (by decide) (fun j hj => by rw [Nat.zero_add]; exact h j hj)).mono fun e w' ⟨h1, h2⟩ => ⟨h1, by rw [h2]; exact Ext.refl _⟩
/-- .. and what stands beside it -/
def EnvQ (B : Nat) (w0 : World) (R : Item) : Prop := EnvA B w0 R ∧ ∀ W, Hp B w0 W [R] → FnsAt W
/-- the tokens behind a name, an item -/
theorem nameP_end {l r : List Tk} {n : ByteArray} (hl : EndT l) (h : nameP l = some (n, r)) : EndT r ∧ (∀ t ∈ r, t ∈ l) ∧ r.length < l.length := by
  cases l with
  | nil => cases h
  | cons t l =>
    rw [nameP] at h
    cases hn : nameT t with
    | false => rw [hn] at h; simp at h
    | true =>
      rw [hn] at h
      simp only [if_true, Option.some.injEq, Prod.mk.injEq] at h
      obtain ⟨_, rfl⟩ := h
      refine ⟨hl.tl ?_, fun t ht => List.mem_cons_of_mem _ ht, by simp⟩
      simp only [nameT, Bool.and_eq_true, beq_iff_eq] at hn
      omega
def ItRes (B : Nat) (w0 : World) (R : Item) (gt gp : Nat) (M : List Item) (r : Option (IT × List Tk)) (e : Ending) (w' : World) : Prop := match r with
  | some (x, r) => e = .returned (.agg #[.string x.fn, .string x.col]) ∧ ∃ y', PAt B w0 R gt gp r y' ∧ Hp B w0 w' (y' :: R :: M)
  | none => Fails e ∧ Hp B w0 w' M
theorem rot2 {B : Nat} {w0 W : World} {a y R : Item} {M : List Item} (h : Hp B w0 W (a :: y :: R :: M)) : Hp B w0 W (y :: R :: a :: M) := h.perm (List.perm_append_comm_assoc [a] [y, R] M).symm
theorem un2 {B : Nat} {w0 W : World} {a y R : Item} {M : List Item} (h : Hp B w0 W (y :: R :: a :: M)) : Hp B w0 W (a :: y :: R :: M) := h.perm (List.perm_append_comm_assoc [a] [y, R] M)
theorem rotB {B : Nat} {w0 W : World} {a b y R : Item} {M : List Item} (h : Hp B w0 W (a :: b :: y :: R :: M)) : Hp B w0 W (y :: R :: a :: b :: M) := h.perm (List.perm_append_comm_assoc [a, b] [y, R] M).symm
theorem unB {B : Nat} {w0 W : World} {a b y R : Item} {M : List Item} (h : Hp B w0 W (y :: R :: a :: b :: M)) : Hp B w0 W (a :: b :: y :: R :: M) := h.perm (List.perm_append_comm_assoc [a, b] [y, R] M)
set_option maxRecDepth 100000 in
set_option maxHeartbeats 8000000 in
theorem item_any {B : Nat} {w0 w : World} {R : Item} {gt gp : Nat} {l : List Tk} {y : Item} {M : List Item} (hE : EnvQ B w0 R) (hl : EndT l) (hP : PAt B w0 R gt gp l y) (hS : Hp B w0 w (y :: R :: M)) :
    Calls Tryz.prog 38 #[.pointer (some ⟨gp, 0, none⟩)] w (ItRes B w0 R gt gp M (itemP l)) := by
  have HN := Lib.hid (fun (W : World) (L : List Item) (h : Hp B w0 W (y :: R :: L)) => name_par hE.1 hl hP h)
  have HE := Lib.hid hE
  obtain ⟨D, hD⟩ : ∃ D, D = itemP l := ⟨_, rfl⟩
  rw [← hD]
  unfold itemP at hD
  clear hE hP
  go_enter Tryz.func38, Tryz.ntmps38
  go_upto_region 1 with (first | (refine hab ?_; (try clear hF); clear hS; intro wk hS; (try simp only [List.set_cons_zero, List.set_cons_succ, heap_size, heap_set_size] at hS); ((try clear hF); refine hfI ?_; intro hF)) | fail)
  cases h1 : nameP l with
  | none => as_aux_lemma =>
    rw [h1] at HN hD
    subst hD
    clear h1
    go_wp2_with (first | (refine hab ?_; (try clear hF); clear hS; intro wk hS; (try simp only [List.set_cons_zero, List.set_cons_succ, heap_size, heap_set_size] at hS); ((try clear hF); refine hfI ?_; intro hF)) | (go_at_call 42; (with_reducible refine Calls.mono (HN.out _ _ (rot2 hS)) ?_); clear hS; rintro e wk ⟨⟨tp, pv, rfl⟩, hS⟩))
    exact ⟨rfl, ⟨_, _, rfl⟩, hS.tail⟩
  | some z =>
    obtain ⟨n, r⟩ := z
    rw [h1] at HN hD
    simp only at hD
    have HFN := Lib.hid (fun (W : World) (h : Hp B w0 W [R]) => fns_any n W (HE.out.2 W h))
    obtain ⟨hr, _, _⟩ := nameP_end hl h1
    obtain ⟨fb, hfb⟩ : ∃ b, b = Lib.containsS fns4 n := ⟨_, rfl⟩
    rw [← hfb] at HFN hD
    clear h1 hl hfb
    cases fb with
    | false => as_aux_lemma =>
      obtain rfl : D = some (⟨noS, n⟩, r) := by rw [hD]; simp
      clear hD
      go_wp2_with (first | (refine hab ?_; (try clear hF); clear hS; intro wk hS; (try simp only [List.set_cons_zero, List.set_cons_succ, heap_size, heap_set_size] at hS); ((try clear hF); refine hfI ?_; intro hF)) | (go_at_call 42; (with_reducible refine Calls.mono (HN.out _ _ (rot2 hS)) ?_); clear hS; rintro e wk ⟨rfl, y1, HY1, hS⟩; replace hS := un2 hS; ((try clear hF); refine hfI ?_; intro hF)) | (go_at_call 23; (with_reducible refine (HFN.out _ (gsub2 hS)).mono ?_); rintro e wk ⟨rfl, hX⟩; replace hS := hS.step hX; clear hX; ((try clear hF); refine hfI ?_; intro hF)))
      refine bodyPost_ret (v := .agg #[.string noS, .string n]) (by simp [results, Tryz.results38, go_sem, hF, noS]) rfl (by exact ⟨rfl, y1, HY1, hS.tail⟩)
    | true =>
      have HTK := Lib.hid (fun (y1 : Item) (HY : PAt B w0 R gt gp r y1) (W : World) (L : List Item) (h : Hp B w0 W (y1 :: R :: L)) => take_any ⟨#[40]⟩ hr HY h)
      cases h2 : seeT r [40] with
      | false => as_aux_lemma =>
        have h2' : seeT r (⟨#[40]⟩ : ByteArray).data.toList = false := h2
        rw [h2'] at HTK
        simp only [Bool.false_eq_true, if_false] at HTK
        obtain rfl : D = some (⟨noS, n⟩, r) := by rw [hD, h2]; simp
        clear hD h2 h2'
        go_wp2_with (first | (refine hab ?_; (try clear hF); clear hS; intro wk hS; (try simp only [List.set_cons_zero, List.set_cons_succ, heap_size, heap_set_size] at hS); ((try clear hF); refine hfI ?_; intro hF)) | (go_at_call 42; (with_reducible refine Calls.mono (HN.out _ _ (rot2 hS)) ?_); clear hS; rintro e wk ⟨rfl, y1, HY1, hS⟩; replace hS := un2 hS; ((try clear hF); refine hfI ?_; intro hF)) | (go_at_call 23; (with_reducible refine (HFN.out _ (gsub2 hS)).mono ?_); rintro e wk ⟨rfl, hX⟩; replace hS := hS.step hX; clear hX; ((try clear hF); refine hfI ?_; intro hF)) | (go_at_call 39; (with_reducible refine Calls.mono (HTK.out _ HY1 _ _ (rot2 hS)) ?_); clear hS; rintro e wk ⟨rfl, y2, HY2, hS⟩; replace hS := un2 hS; ((try clear hF); refine hfI ?_; intro hF)))
        refine bodyPost_ret (v := .agg #[.string noS, .string n]) (by simp [results, Tryz.results38, go_sem, hF, noS]) rfl (by exact ⟨rfl, y2, HY2, hS.tail⟩)
      | true =>
        have h2' : seeT r (⟨#[40]⟩ : ByteArray).data.toList = true := h2
        rw [h2'] at HTK
        simp only [if_true] at HTK
        rw [h2] at hD
        simp only [Bool.and_self, if_true] at hD
        have hr2 := hr.tail h2
        unfold fnP at hD
        clear h2 h2' hr
        obtain ⟨r1, hr1⟩ : ∃ x, x = r.tail := ⟨_, rfl⟩
        rw [← hr1] at HTK hD hr2
        clear hr1
        go_upto_region 5 with (first | (refine hab ?_; (try clear hF); clear hS; intro wk hS; (try simp only [List.set_cons_zero, List.set_cons_succ, heap_size, heap_set_size] at hS); ((try clear hF); refine hfI ?_; intro hF)) | (go_at_call 42; (with_reducible refine Calls.mono (HN.out _ _ (rot2 hS)) ?_); clear hS; rintro e wk ⟨rfl, y1, HY1, hS⟩; replace hS := un2 hS; ((try clear hF); refine hfI ?_; intro hF)) | (go_at_call 23; (with_reducible refine (HFN.out _ (gsub2 hS)).mono ?_); rintro e wk ⟨rfl, hX⟩; replace hS := hS.step hX; clear hX; ((try clear hF); refine hfI ?_; intro hF)) | (go_at_call 39; (with_reducible refine Calls.mono (HTK.out _ HY1 _ _ (rot2 hS)) ?_); clear hS; rintro e wk ⟨rfl, y2, HY2, hS⟩; replace hS := un2 hS; ((try clear hF); refine hfI ?_; intro hF)))
        clear HN HFN HTK
        have HT2 := Lib.hid (fun (W : World) (L : List Item) (h : Hp B w0 W (y2 :: R :: L)) => take_any ⟨#[42]⟩ hr2 HY2 h)
        have HN2 := Lib.hid (fun (y3 : Item) (HY3 : PAt B w0 R gt gp r1 y3) (W : World) (L : List Item) (h : Hp B w0 W (y3 :: R :: L)) => name_par HE.out.1 hr2 HY3 h)
        have hstar : seeT r1 (⟨#[42]⟩ : ByteArray).data.toList = seeT r1 [42] := rfl
        rw [hstar] at HT2
        by_cases hcn : n = countS
        · subst hcn
          cases h4 : seeT r1 [42] with
          | true =>
            rw [h4] at HT2 hD
            simp only [if_true] at HT2
            replace hD : D = closeP ⟨countS, starS⟩ r1.tail := by rw [hD]; simp
            have hr3 := hr2.tail h4
            clear h4 hstar HN2 HY2
            unfold countS
            go_upto_region 8 with (first | (refine hab ?_; (try clear hF); clear hS; intro wk hS; (try simp only [List.set_cons_zero, List.set_cons_succ, heap_size, heap_set_size] at hS); ((try clear hF); refine hfI ?_; intro hF)) | (go_at_call 39; (with_reducible refine Calls.mono (HT2.out _ _ (rotB hS)) ?_); clear hS; rintro e wk ⟨rfl, y3, HY3, hS⟩; replace hS := unB hS; ((try clear hF); refine hfI ?_; intro hF)))
            have HM := Lib.hid (fun (W : World) (L : List Item) (h : Hp B w0 W (y3 :: R :: L)) => must_any ⟨#[41]⟩ hr3 HY3 h)
            cases h5 : seeT r1.tail [41] with
            | true => as_aux_lemma =>
              have h5' : seeT r1.tail (⟨#[41]⟩ : ByteArray).data.toList = true := h5
              rw [h5'] at HM
              simp only [if_true] at HM
              obtain rfl : D = some (⟨countS, starS⟩, r1.tail.tail) := by rw [hD]; simp [closeP, h5]
              clear h5 h5' hD
              go_wp2_with (first | (refine hab ?_; (try clear hF); clear hS; intro wk hS; (try simp only [List.set_cons_zero, List.set_cons_succ, heap_size, heap_set_size] at hS); ((try clear hF); refine hfI ?_; intro hF)) | (go_at_call 36; (with_reducible refine Calls.mono (HM.out _ _ (rotB hS)) ?_); clear hS; rintro e wk ⟨rfl, y4, HY4, hS⟩; replace hS := unB hS; ((try clear hF); refine hfI ?_; intro hF)))
              refine bodyPost_ret (v := .agg #[.string countS, .string starS]) (by simp [results, Tryz.results38, go_sem, hF, countS, starS]) rfl (by exact ⟨rfl, y4, HY4, hS.tail.tail⟩)
            | false => as_aux_lemma =>
              have h5' : seeT r1.tail (⟨#[41]⟩ : ByteArray).data.toList = false := h5
              rw [h5'] at HM
              simp only [Bool.false_eq_true, if_false] at HM
              obtain rfl : D = none := by rw [hD]; simp [closeP, h5]
              clear h5 h5' hD
              go_wp2_with (first | (refine hab ?_; (try clear hF); clear hS; intro wk hS; (try simp only [List.set_cons_zero, List.set_cons_succ, heap_size, heap_set_size] at hS); ((try clear hF); refine hfI ?_; intro hF)) | (go_at_call 36; (with_reducible refine Calls.mono (HM.out _ _ (rotB hS)) ?_); clear hS; rintro e wk ⟨⟨tp, pv, rfl⟩, hS⟩))
              exact ⟨rfl, ⟨_, _, rfl⟩, hS.tail.tail⟩
          | false =>
            rw [h4] at HT2 hD
            simp only [Bool.false_eq_true, if_false] at HT2
            simp only [Bool.and_false, Bool.false_eq_true, if_false] at hD
            clear h4 hstar HY2
            unfold countS
            have HN3 := Lib.hid (HN2.out)
            cases h6 : nameP r1 with
            | none => as_aux_lemma =>
              rw [h6] at HN3 hD
              simp only at hD
              subst hD
              clear h6 HN2
              go_wp2_with (first | (refine hab ?_; (try clear hF); clear hS; intro wk hS; (try simp only [List.set_cons_zero, List.set_cons_succ, heap_size, heap_set_size] at hS); ((try clear hF); refine hfI ?_; intro hF)) | (go_at_call 39; (with_reducible refine Calls.mono (HT2.out _ _ (rotB hS)) ?_); clear hS; rintro e wk ⟨rfl, y3, HY3, hS⟩; replace hS := unB hS; ((try clear hF); refine hfI ?_; intro hF)) | (go_at_call 42; (with_reducible refine Calls.mono (HN3.out _ HY3 _ _ (rotB hS)) ?_); clear hS; rintro e wk ⟨⟨tp, pv, rfl⟩, hS⟩))
              exact ⟨rfl, ⟨_, _, rfl⟩, hS.tail.tail⟩
            | some z =>
              obtain ⟨cl, r2⟩ := z
              rw [h6] at HN3 hD
              simp only at hD
              obtain ⟨hr3, _, _⟩ := nameP_end hr2 h6
              clear h6 HN2
              go_upto_region 8 with (first | (refine hab ?_; (try clear hF); clear hS; intro wk hS; (try simp only [List.set_cons_zero, List.set_cons_succ, heap_size, heap_set_size] at hS); ((try clear hF); refine hfI ?_; intro hF)) | (go_at_call 39; (with_reducible refine Calls.mono (HT2.out _ _ (rotB hS)) ?_); clear hS; rintro e wk ⟨rfl, y3, HY3, hS⟩; replace hS := unB hS; ((try clear hF); refine hfI ?_; intro hF)) | (go_at_call 42; (with_reducible refine Calls.mono (HN3.out _ HY3 _ _ (rotB hS)) ?_); clear hS; rintro e wk ⟨rfl, y5, HY5, hS⟩; replace hS := unB hS; ((try clear hF); refine hfI ?_; intro hF)))
              have HM := Lib.hid (fun (W : World) (L : List Item) (h : Hp B w0 W (y5 :: R :: L)) => must_any ⟨#[41]⟩ hr3 HY5 h)
              cases h5 : seeT r2 [41] with
              | true => as_aux_lemma =>
                have h5' : seeT r2 (⟨#[41]⟩ : ByteArray).data.toList = true := h5
                rw [h5'] at HM
                simp only [if_true] at HM
                obtain rfl : D = some (⟨countS, cl⟩, r2.tail) := by rw [hD]; simp [closeP, h5]
                clear h5 h5' hD
                go_wp2_with (first | (refine hab ?_; (try clear hF); clear hS; intro wk hS; (try simp only [List.set_cons_zero, List.set_cons_succ, heap_size, heap_set_size] at hS); ((try clear hF); refine hfI ?_; intro hF)) | (go_at_call 36; (with_reducible refine Calls.mono (HM.out _ _ (rotB hS)) ?_); clear hS; rintro e wk ⟨rfl, y4, HY4, hS⟩; replace hS := unB hS; ((try clear hF); refine hfI ?_; intro hF)))
                refine bodyPost_ret (v := .agg #[.string countS, .string cl]) (by simp [results, Tryz.results38, go_sem, hF, countS]) rfl (by exact ⟨rfl, y4, HY4, hS.tail.tail⟩)
              | false => as_aux_lemma =>
                have h5' : seeT r2 (⟨#[41]⟩ : ByteArray).data.toList = false := h5
                rw [h5'] at HM
                simp only [Bool.false_eq_true, if_false] at HM
                obtain rfl : D = none := by rw [hD]; simp [closeP, h5]
                clear h5 h5' hD
                go_wp2_with (first | (refine hab ?_; (try clear hF); clear hS; intro wk hS; (try simp only [List.set_cons_zero, List.set_cons_succ, heap_size, heap_set_size] at hS); ((try clear hF); refine hfI ?_; intro hF)) | (go_at_call 36; (with_reducible refine Calls.mono (HM.out _ _ (rotB hS)) ?_); clear hS; rintro e wk ⟨⟨tp, pv, rfl⟩, hS⟩))
                exact ⟨rfl, ⟨_, _, rfl⟩, hS.tail.tail⟩
        · have hcb : (n.data.toList == countS.data.toList) = false := by
            cases hx : (n.data.toList == countS.data.toList) with
            | false => rfl
            | true =>
              have h1 : n.data.toList = countS.data.toList := by simpa using hx
              exact absurd (ByteArray.ext (Array.toList_inj.1 h1)) hcn
          have hcl : (n.toList == [99, 111, 117, 110, 116]) = false := by
            rw [ByteArray.toList_eq]
            exact hcb
          rw [hcb] at hD
          simp only [Bool.false_and, Bool.false_eq_true, if_false] at hD
          clear hcb hstar HT2 hcn
          have HN3 := Lib.hid (HN2.out)
          cases h6 : nameP r1 with
          | none => as_aux_lemma =>
            rw [h6] at HN3 hD
            simp only at hD
            subst hD
            clear h6 HN2
            go_wp2_with (first | (refine hab ?_; (try clear hF); clear hS; intro wk hS; (try simp only [List.set_cons_zero, List.set_cons_succ, heap_size, heap_set_size] at hS); ((try clear hF); refine hfI ?_; intro hF)) | (go_at_call 42; (with_reducible refine Calls.mono (HN3.out _ HY2 _ _ (rotB hS)) ?_); clear hS; rintro e wk ⟨⟨tp, pv, rfl⟩, hS⟩))
            exact ⟨rfl, ⟨_, _, rfl⟩, hS.tail.tail⟩
          | some z =>
            obtain ⟨cl, r2⟩ := z
            rw [h6] at HN3 hD
            simp only at hD
            obtain ⟨hr3, _, _⟩ := nameP_end hr2 h6
            clear h6 HN2
            go_upto_region 8 with (first | (refine hab ?_; (try clear hF); clear hS; intro wk hS; (try simp only [List.set_cons_zero, List.set_cons_succ, heap_size, heap_set_size] at hS); ((try clear hF); refine hfI ?_; intro hF)) | (go_at_call 42; (with_reducible refine Calls.mono (HN3.out _ HY2 _ _ (rotB hS)) ?_); clear hS; rintro e wk ⟨rfl, y5, HY5, hS⟩; replace hS := unB hS; ((try clear hF); refine hfI ?_; intro hF)))
            have HM := Lib.hid (fun (W : World) (L : List Item) (h : Hp B w0 W (y5 :: R :: L)) => must_any ⟨#[41]⟩ hr3 HY5 h)
            cases h5 : seeT r2 [41] with
            | true => as_aux_lemma =>
              have h5' : seeT r2 (⟨#[41]⟩ : ByteArray).data.toList = true := h5
              rw [h5'] at HM
              simp only [if_true] at HM
              obtain rfl : D = some (⟨n, cl⟩, r2.tail) := by rw [hD]; simp [closeP, h5]
              clear h5 h5' hD
              go_wp2_with (first | (refine hab ?_; (try clear hF); clear hS; intro wk hS; (try simp only [List.set_cons_zero, List.set_cons_succ, heap_size, heap_set_size] at hS); ((try clear hF); refine hfI ?_; intro hF)) | (go_at_call 36; (with_reducible refine Calls.mono (HM.out _ _ (rotB hS)) ?_); clear hS; rintro e wk ⟨rfl, y4, HY4, hS⟩; replace hS := unB hS; ((try clear hF); refine hfI ?_; intro hF)))
              refine bodyPost_ret (v := .agg #[.string n, .string cl]) (by simp [results, Tryz.results38, go_sem, hF]) rfl (by exact ⟨rfl, y4, HY4, hS.tail.tail⟩)
            | false => as_aux_lemma =>
              have h5' : seeT r2 (⟨#[41]⟩ : ByteArray).data.toList = false := h5
              rw [h5'] at HM
              simp only [Bool.false_eq_true, if_false] at HM
              obtain rfl : D = none := by rw [hD]; simp [closeP, h5]
              clear h5 h5' hD
              go_wp2_with (first | (refine hab ?_; (try clear hF); clear hS; intro wk hS; (try simp only [List.set_cons_zero, List.set_cons_succ, heap_size, heap_set_size] at hS); ((try clear hF); refine hfI ?_; intro hF)) | (go_at_call 36; (with_reducible refine Calls.mono (HM.out _ _ (rotB hS)) ?_); clear hS; rintro e wk ⟨⟨tp, pv, rfl⟩, hS⟩))
              exact ⟨rfl, ⟨_, _, rfl⟩, hS.tail.tail⟩
end Go.Proofs.YtlaldfkeaalnhaaGreatDoor
