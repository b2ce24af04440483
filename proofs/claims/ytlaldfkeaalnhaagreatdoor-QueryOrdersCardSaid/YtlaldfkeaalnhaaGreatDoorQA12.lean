/- ask: the parser's steps: code, literal. -/
import Derived.Test.YtlaldfkeaalnhaaGreatDoorQA10
namespace Go.Proofs.YtlaldfkeaalnhaaGreatDoor
set_option linter.unusedSimpArgs false
set_option linter.unusedVariables false
open Go.RowKit
set_option linter.all false
theorem idx_codes (g : Nat) (t : TypeId) (fr : Nat × Nat) (s : ByteArray) (w : World) (h : w.heap[g]? = some (.cells #[.string ⟨#[61]⟩, .string ⟨#[60, 62]⟩, .string ⟨#[60]⟩, .string ⟨#[60, 61]⟩, .string ⟨#[62]⟩, .string ⟨#[62, 61]⟩] t fr)) :
    Calls Tryz.prog 62 #[.slice (some ⟨g, 0, none⟩) 6 6, .string s] w fun e w' => e = .returned (.int .i64 (Lib.idxOfS codesS s)) ∧ Ext w w' :=
  (Tryz.slices_Index_string g 0 6 6 codesS s w (by decide) (by decide) (fun j hj => by
    have : j < 6 := hj
    obtain rfl | rfl | rfl | rfl | rfl | rfl : j = 0 ∨ j = 1 ∨ j = 2 ∨ j = 3 ∨ j = 4 ∨ j = 5 := by omega
    all_goals (simp [World.cell?, h]; rfl))).mono fun e w' ⟨h1, h2⟩ => ⟨h1, by rw [h2]; exact Ext.refl _⟩
theorem idx_range (s : ByteArray) : -1 ≤ Lib.idxOfS codesS s ∧ Lib.idxOfS codesS s ≤ 5 := by
  have : ∀ (zs : List ByteArray) (x : ByteArray) (i : Nat), (0 ≤ Lib.idxFromS zs x i ∧ Lib.idxFromS zs x i < (i : Int) + zs.length) ∨ Lib.idxFromS zs x i = -1 := by
    intro zs
    induction zs with
    | nil => intro x i; right; rfl
    | cons z zs ih =>
      intro x i
      unfold Lib.idxFromS
      split
      · left; simp only [List.length_cons]; omega
      · rcases ih x (i + 1) with h | h
        · left; simp only [List.length_cons]; omega
        · right; exact h
  have h := this codesS s 0
  have h6 : codesS.length = 6 := rfl
  unfold Lib.idxOfS
  omega
set_option maxRecDepth 100000 in
set_option maxHeartbeats 8000000 in
theorem code_any (s : ByteArray) (w : World) : Calls Tryz.prog 133 #[.string s] w fun e w' => e = .returned (.int .i64 (Lib.idxOfS codesS s + 1)) ∧ Ext w w' := by
  have HIX := Lib.hid (fun (g : Nat) (t : TypeId) (fr : Nat × Nat) (W : World) h => idx_codes g t fr s W h)
  obtain ⟨h1, h2⟩ := idx_range s
  obtain ⟨ix, hix⟩ : ∃ ix, ix = Lib.idxOfS codesS s := ⟨_, rfl⟩
  rw [← hix] at HIX h1 h2 ⊢
  clear hix
  have hS := Hp.init w
  have hR := Reads.nil w
  go_enter Tryz.func133, Tryz.ntmps133
  go_wp2_with (first | (refine hab ?_; (try clear hF); clear hS; intro wk hS; (try simp only [List.set_cons_zero, List.set_cons_succ, heap_size, heap_set_size] at hS); ((try clear hF); refine hfI ?_; intro hF)) | (go_at_call 62; (with_reducible refine (HIX.out _ _ _ _ (hS.blkAt 0 rfl)).mono ?_); rintro e wk ⟨rfl, hX⟩; replace hS := hS.step hX; clear hX; ((try clear hF); refine hfI ?_; intro hF)))
  go_ret
  exact ⟨rfl, hS.ext⟩
def LitRes (B : Nat) (w0 : World) (R : Item) (gt gp : Nat) (M : List Item) (r : Option (GV × List Tk)) (e : Ending) (w' : World) : Prop := match r with
  | some (v, r) => e = .returned (.agg #[.int .i64 v.kind, .int .i64 v.num, .string v.text]) ∧ ∃ y', PAt B w0 R gt gp r y' ∧ Hp B w0 w' (y' :: R :: M)
  | none => Fails e ∧ Hp B w0 w' M
theorem g4 {B : Nat} {w0 W : World} {a b c : Item} {L : List Item} (h : Hp B w0 W (a :: b :: c :: L)) : Hp B w0 W L := h.tail.tail.tail
theorem g4e {B : Nat} {w0 W : World} {a b c y R : Item} {M : List Item} (h : Hp B w0 W (a :: b :: c :: y :: R :: M)) : Hp B w0 W [R] := gsub1 (g4 h)
set_option maxRecDepth 100000 in
set_option maxHeartbeats 8000000 in
theorem lit_any {B : Nat} {w0 w : World} {R : Item} {gt gp : Nat} {l : List Tk} {y : Item} {M : List Item} (hE : EnvA B w0 R) (hl : EndT l) (hok : ∀ t ∈ l, TkOk 5000 t) (hP : PAt B w0 R gt gp l y) (hS : Hp B w0 w (y :: R :: M)) :
    Calls Tryz.prog 134 #[.pointer (some ⟨gp, 0, none⟩)] w (LitRes B w0 R gt gp M (litP l)) := by
  have HFL := Lib.hid (fun (er : Int) (W : World) (h : Hp B w0 W (y :: R :: M)) => fail_any er hl.ne hP h)
  have HSE := Lib.hid (fun (W : World) (h : Hp B w0 W (y :: R :: M)) => show Calls Tryz.prog 71 #[.pointer (some ⟨gp, 0, none⟩), .string ⟨#[110, 117, 108, 108]⟩] W fun e w' => e = .returned (.bool (seeT l nullL)) ∧ Ext W w' from see_any ⟨nullL.toArray⟩ hl.ne hP h)
  obtain ⟨off, n, cap, q, rfl, hn, hc, hc2, rfl, hT⟩ := hP
  cases q with
  | nil => exact absurd rfl hl.ne
  | cons x q =>
    have HRD := Lib.hid hT.hd
    have HTL := Lib.hid hT.tl
    obtain ⟨k1, k5, ksz, k3⟩ := hok x.1 (by simp)
    have HPI := Lib.hid (fun (W : World) (h : Hp B w0 W [R]) => parseInt_all x.1.text (by omega) W (hE W h).2.1 (hE W h).2.2)
    have HRT := Lib.hid (fun (W : World) => right_any 2 0 (midS x.1.text) W)
    have hE1 : x.1.kind ≠ 5 → EndT (q.map (·.1)) := fun h => EndT.tl (by simpa using hl) h
    have hn0 : 0 < n := by rw [← hn]; simp
    have hq : q.length = n - 1 := by rw [← hn]; simp
    have hE2 : x.1.kind ≠ 5 → 1 ≤ q.length := fun h => by
      have := (hE1 h).ne
      cases q with
      | nil => exact absurd rfl this
      | cons _ _ => simp
    clear hE hT hn hl hE1 hok
    obtain ⟨⟨kd, tx⟩, pos⟩ := x
    simp only at HRD HPI HRT hE2 ksz k3 k1 k5
    obtain ⟨D, hD⟩ : ∃ D, D = litP (((⟨kd, tx⟩, pos) :: q : List (Tk × Nat)).map (·.1)) := ⟨_, rfl⟩
    rw [← hD]
    by_cases hk2 : kd = 2
    · have hq1 := hE2 (by omega)
      have h1 : 1 ≤ n := by omega
      have h1c : 1 ≤ cap := by omega
      subst hk2
      clear hE2 k3 HRT HSE k1 k5
      ((try clear hF); refine hfI ?_; intro hF)
      go_enter Tryz.func134, Tryz.ntmps134
      go_upto_region 5 with (first | (refine hab ?_; (try clear hF); clear hS; intro wk hS; (try simp only [List.set_cons_zero, List.set_cons_succ, heap_size, heap_set_size] at hS); ((try clear hF); refine hfI ?_; intro hF)) | (go_at_call 74; (with_reducible refine Calls.mono (HPI.out _ (g4e hS)) ?_); rintro e wk ⟨⟨v, er, rfl, hend⟩, hX⟩; replace hS := hS.step hX; clear hX; ((try clear hF); refine hfI ?_; intro hF)))
      have HE := Lib.hid hend
      clear hend
      rcases HE.out with ⟨rfl, h2⟩ | ⟨⟨tp, pv, rfl⟩, h2⟩
      · obtain rfl : D = some (⟨1, v, ⟨#[]⟩⟩, q.map (·.1)) := by rw [hD]; simp [litP, litT, h2]
        clear HFL HPI HE h2 hD
        ((try clear hF); refine hfI ?_; intro hF)
        go_wp2_with (first | (refine hab ?_; (try clear hF); clear hS; intro wk hS; (try simp only [List.set_cons_zero, List.set_cons_succ, heap_size, heap_set_size] at hS); ((try clear hF); refine hfI ?_; intro hF)) | fail)
        refine bodyPost_ret (v := .agg #[.int .i64 1, .int .i64 v, .string ⟨#[]⟩]) ?_ rfl ?_
        · simp [results, Tryz.results134, go_sem, hF]
        · exact ⟨rfl, _, ⟨off + 3, n - 1, cap - 1, q, rfl, hq, by omega, by omega, rfl, HTL.out⟩, g4 hS⟩
      · obtain rfl : D = none := by rw [hD]; simp [litP, litT, h2]
        clear HPI HE h2 hD HTL
        ((try clear hF); refine hfI ?_; intro hF)
        go_wp2_with (first | (refine hab ?_; (try clear hF); clear hS; intro wk hS; (try simp only [List.set_cons_zero, List.set_cons_succ, heap_size, heap_set_size] at hS); ((try clear hF); refine hfI ?_; intro hF)) | (go_at_call 70; (with_reducible refine (HFL.out _ _ (g4 hS)).mono ?_); rintro e wk ⟨⟨tp2, pv2, rfl⟩, hX⟩; replace hS := hS.step hX; clear hX))
        exact ⟨rfl, ⟨_, _, rfl⟩, grest1 (g4 hS)⟩
    · have q2 : (kd == 2) = false := by simp [hk2]
      by_cases hk3 : kd = 3
      · have hq1 := hE2 (by omega)
        have h1 : 1 ≤ n := by omega
        have h1c : 1 ≤ cap := by omega
        have hz := k3 hk3
        subst hk3
        have hms : midS tx = tx.extract 1 (tx.size - 1) := rfl
        rw [hms] at HRT
        cases hrt : rightB 2 0 (tx.extract 1 (tx.size - 1)) with
        | true =>
          obtain rfl : D = some (⟨2, 0, tx.extract 1 (tx.size - 1)⟩, q.map (·.1)) := by rw [hD]; simp [litP, litT, hms, hrt]
          rw [hrt] at HRT
          clear hrt hms hD HFL HPI HSE hE2 k3 k1 k5 hk2
          ((try clear hF); refine hfI ?_; intro hF)
          go_enter Tryz.func134, Tryz.ntmps134
          go_wp2_with (first | (refine hab ?_; (try clear hF); clear hS; intro wk hS; (try simp only [List.set_cons_zero, List.set_cons_succ, heap_size, heap_set_size] at hS); ((try clear hF); refine hfI ?_; intro hF)) | (go_at_call 85; (with_reducible refine (HRT.out _).mono ?_); rintro e wk ⟨rfl, hX⟩; replace hS := hS.step hX; clear hX; ((try clear hF); refine hfI ?_; intro hF)))
          refine bodyPost_ret (v := .agg #[.int .i64 2, .int .i64 0, .string (tx.extract 1 (tx.size - 1))]) ?_ rfl ?_
          · simp [results, Tryz.results134, go_sem, hF]
          · exact ⟨rfl, _, ⟨off + 3, n - 1, cap - 1, q, rfl, hq, by omega, by omega, rfl, HTL.out⟩, g4 hS⟩
        | false =>
          obtain rfl : D = none := by rw [hD]; simp [litP, litT, hms, hrt]
          rw [hrt] at HRT
          clear hrt hms hD HPI HSE hE2 k3 k1 k5 hk2 HTL
          ((try clear hF); refine hfI ?_; intro hF)
          go_enter Tryz.func134, Tryz.ntmps134
          go_wp2_with (first | (refine hab ?_; (try clear hF); clear hS; intro wk hS; (try simp only [List.set_cons_zero, List.set_cons_succ, heap_size, heap_set_size] at hS); ((try clear hF); refine hfI ?_; intro hF)) | (go_at_call 85; (with_reducible refine (HRT.out _).mono ?_); rintro e wk ⟨rfl, hX⟩; replace hS := hS.step hX; clear hX; ((try clear hF); refine hfI ?_; intro hF)) | (go_at_call 70; (with_reducible refine (HFL.out _ _ (g4 hS)).mono ?_); rintro e wk ⟨⟨tp2, pv2, rfl⟩, hX⟩; replace hS := hS.step hX; clear hX))
          exact ⟨rfl, ⟨_, _, rfl⟩, grest1 (g4 hS)⟩
      · have q3 : (kd == 3) = false := by simp [hk3]
        have hse : seeT (((⟨kd, tx⟩, pos) :: q : List (Tk × Nat)).map (·.1)) nullL = seeT [⟨kd, tx⟩] nullL := rfl
        rw [hse] at HSE
        cases hb : seeT [(⟨kd, tx⟩ : Tk)] nullL with
        | true =>
          have hq1 := hE2 (seeT_kind hb)
          have h1 : 1 ≤ n := by omega
          have h1c : 1 ≤ cap := by omega
          obtain rfl : D = some (⟨0, 0, ⟨#[]⟩⟩, q.map (·.1)) := by rw [hD]; simp [litP, litT, hk2, hk3, hb]
          rw [hb] at HSE
          clear hb hse hD HFL HPI HRT hE2 k3 k1 k5 hk2 hk3
          ((try clear hF); refine hfI ?_; intro hF)
          go_enter Tryz.func134, Tryz.ntmps134
          go_wp2_with (first | (refine hab ?_; (try clear hF); clear hS; intro wk hS; (try simp only [List.set_cons_zero, List.set_cons_succ, heap_size, heap_set_size] at hS); ((try clear hF); refine hfI ?_; intro hF)) | (go_at_call 71; (with_reducible refine (HSE.out _ (g4 hS)).mono ?_); rintro e wk ⟨rfl, hX⟩; replace hS := hS.step hX; clear hX; ((try clear hF); refine hfI ?_; intro hF)))
          refine bodyPost_ret (v := .agg #[.int .i64 0, .int .i64 0, .string ⟨#[]⟩]) ?_ rfl ?_
          · simp [results, Tryz.results134, go_sem, hF]
          · exact ⟨rfl, _, ⟨off + 3, n - 1, cap - 1, q, rfl, hq, by omega, by omega, rfl, HTL.out⟩, g4 hS⟩
        | false =>
          obtain rfl : D = none := by rw [hD]; simp [litP, litT, hk2, hk3, hb]
          rw [hb] at HSE
          clear hb hse hD HPI HRT hE2 k3 k1 k5 hk2 hk3 HTL
          ((try clear hF); refine hfI ?_; intro hF)
          go_enter Tryz.func134, Tryz.ntmps134
          go_wp2_with (first | (refine hab ?_; (try clear hF); clear hS; intro wk hS; (try simp only [List.set_cons_zero, List.set_cons_succ, heap_size, heap_set_size] at hS); ((try clear hF); refine hfI ?_; intro hF)) | (go_at_call 71; (with_reducible refine (HSE.out _ (g4 hS)).mono ?_); rintro e wk ⟨rfl, hX⟩; replace hS := hS.step hX; clear hX; ((try clear hF); refine hfI ?_; intro hF)) | (go_at_call 70; (with_reducible refine (HFL.out _ _ (g4 hS)).mono ?_); rintro e wk ⟨⟨tp2, pv2, rfl⟩, hX⟩; replace hS := hS.step hX; clear hX))
          exact ⟨rfl, ⟨_, _, rfl⟩, grest1 (g4 hS)⟩
end Go.Proofs.YtlaldfkeaalnhaaGreatDoor
