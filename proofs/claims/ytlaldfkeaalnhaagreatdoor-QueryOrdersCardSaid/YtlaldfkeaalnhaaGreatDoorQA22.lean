/- ask.list: some with , between: items, names, orders. (Printed by genlist.py.) -/
import Derived.Test.YtlaldfkeaalnhaaGreatDoorQA19
import Derived.Test.YtlaldfkeaalnhaaGreatDoorQA03
namespace Go.Proofs.YtlaldfkeaalnhaaGreatDoor
set_option linter.unusedSimpArgs false
set_option linter.unusedVariables false
open Go.RowKit
set_option linter.all false
def lenV : Value → Nat
  | .slice _ n _ => n
  | _ => 0
theorem closeP_end {x z : IT} {l r : List Tk} (hl : EndT l) (h : closeP x l = some (z, r)) : EndT r ∧ (∀ t ∈ r, t ∈ l) ∧ r.length ≤ l.length := by
  unfold closeP at h
  cases hs : seeT l [41] with
  | false => rw [hs] at h; simp at h
  | true =>
    rw [hs] at h
    simp only [if_true, Option.some.injEq, Prod.mk.injEq] at h
    obtain ⟨_, rfl⟩ := h
    exact ⟨hl.tail hs, fun t ht => List.mem_of_mem_tail ht, by rw [List.length_tail]; omega⟩
theorem itemP_end {l r : List Tk} {x : IT} (hl : EndT l) (h : itemP l = some (x, r)) : EndT r ∧ (∀ t ∈ r, t ∈ l) ∧ r.length < l.length := by
  unfold itemP at h
  cases h1 : nameP l with
  | none => rw [h1] at h; cases h
  | some z =>
    obtain ⟨n, r1⟩ := z
    obtain ⟨e1, e2, e3⟩ := nameP_end hl h1
    rw [h1] at h
    simp only at h
    split at h
    · rename_i hb
      have hs : seeT r1 [40] = true := by
        simp only [Bool.and_eq_true] at hb
        exact hb.2
      have e4 := e1.tail hs
      unfold fnP at h
      split at h
      · rename_i hb2
        have hs2 : seeT r1.tail [42] = true := by
          simp only [Bool.and_eq_true] at hb2
          exact hb2.2
        obtain ⟨k1, k2, k3⟩ := closeP_end (e4.tail hs2) h
        exact ⟨k1, fun t ht => e2 t (List.mem_of_mem_tail (List.mem_of_mem_tail (k2 t ht))), by rw [List.length_tail, List.length_tail] at k3; omega⟩
      · cases h5 : nameP r1.tail with
        | none => rw [h5] at h; cases h
        | some z2 =>
          obtain ⟨n2, r2⟩ := z2
          obtain ⟨j1, j2, j3⟩ := nameP_end e4 h5
          rw [h5] at h
          obtain ⟨k1, k2, k3⟩ := closeP_end j1 h
          exact ⟨k1, fun t ht => e2 t (List.mem_of_mem_tail (j2 t (k2 t ht))), by rw [List.length_tail] at j3; omega⟩
    · simp only [Option.some.injEq, Prod.mk.injEq] at h
      obtain ⟨_, rfl⟩ := h
      exact ⟨e1, e2, e3⟩
theorem sizeP_end {m n : Int} {l r : List Tk} (hl : EndT l) (h : sizeP m l = some (n, r)) : EndT r ∧ (∀ t ∈ r, t ∈ l) ∧ r.length < l.length ∧ 1 ≤ n ∧ n ≤ m := by
  cases l with
  | nil => cases h
  | cons t l =>
    rw [sizeP] at h
    split at h
    · rename_i hk
      split at h
      · split at h
        · cases h
        · rename_i hn
          simp only [Option.some.injEq, Prod.mk.injEq] at h
          obtain ⟨rfl, rfl⟩ := h
          exact ⟨hl.tl (by omega), fun t ht => List.mem_cons_of_mem _ ht, by simp, by omega, by omega⟩
      · cases h
    · cases h
theorem orderP_end {m : Int} {l r : List Tk} {x : Int × Bool} (hl : EndT l) (h : orderP m l = some (x, r)) : EndT r ∧ (∀ t ∈ r, t ∈ l) ∧ r.length < l.length := by
  unfold orderP at h
  cases h1 : sizeP m l with
  | none => rw [h1] at h; cases h
  | some z =>
    obtain ⟨n, r1⟩ := z
    obtain ⟨e1, e2, e3, _⟩ := sizeP_end hl h1
    rw [h1] at h
    simp only [Option.some.injEq, Prod.mk.injEq] at h
    obtain ⟨_, h⟩ := h
    cases h2 : seeT r1 descL with
    | true =>
      rw [h2] at h
      simp only [if_true] at h
      subst h
      exact ⟨e1.tail h2, fun t ht => e2 t (List.mem_of_mem_tail ht), by rw [List.length_tail]; omega⟩
    | false =>
      rw [h2] at h
      simp only [Bool.false_eq_true, if_false] at h
      subst h
      exact ⟨e1, e2, e3⟩
def OrdRes (B : Nat) (w0 : World) (R : Item) (gt gp : Nat) (M : List Item) (r : Option ((Int × Bool) × List Tk)) (e : Ending) (w' : World) : Prop := match r with
  | some (x, r) => e = .returned (.agg #[.int .i64 x.1, .bool x.2]) ∧ ∃ y', PAt B w0 R gt gp r y' ∧ Hp B w0 w' (y' :: R :: M)
  | none => Fails e ∧ Hp B w0 w' M
set_option maxRecDepth 100000 in
set_option maxHeartbeats 8000000 in
theorem order_any {B : Nat} {w0 w : World} {R : Item} {gt gp g1 g3 : Nat} {l : List Tk} {y : Item} {M : List Item} {Aq : Option Addr} {nq cq : Nat} (hE : EnvQ B w0 R) (hl : EndT l) (hok : ∀ t ∈ l, TkOk 5000 t) (hn : nq ≤ 1000)
    (hq : ∀ W, Hp B w0 W M → W.cell? ⟨g1, 0, none⟩ = some (.pointer (some ⟨gp, 0, none⟩)) ∧ W.cell? ⟨g3, 0, none⟩ = some (.slice Aq nq cq)) (hP : PAt B w0 R gt gp l y) (hS : Hp B w0 w (y :: R :: M)) :
    Calls Tryz.prog 44 #[.pointer (some ⟨g1, 0, none⟩), .pointer (some ⟨g3, 0, none⟩)] w (OrdRes B w0 R gt gp M (orderP nq l)) := by
  have HSZ := Lib.hid (fun (L : List Item) (W : World) (h : Hp B w0 W (y :: R :: L)) => size_any (nq : Int) hE.1 hl hok hP h)
  have HRD := Lib.hid hq
  obtain ⟨D, hD⟩ : ∃ D, D = orderP nq l := ⟨_, rfl⟩
  rw [← hD]
  unfold orderP at hD
  clear hE hP hq
  have hS0 := hS
  go_enter Tryz.func44, Tryz.ntmps44
  cases h1 : sizeP nq l with
  | none => as_aux_lemma =>
    rw [h1] at HSZ hD
    simp only at hD
    subst hD
    clear h1
    go_wp2_with (first | (refine hab ?_; (try clear hF); clear hS; intro wk hS; (try simp only [List.set_cons_zero, List.set_cons_succ, heap_size, heap_set_size] at hS); ((try clear hF); refine hfI ?_; intro hF)) | (go_at_call 45; (with_reducible refine Calls.mono (HSZ.out _ _ (rot2 hS)) ?_); clear hS; rintro e wk ⟨⟨tp, pv, rfl⟩, hS⟩))
    exact ⟨rfl, ⟨_, _, rfl⟩, hS.tail⟩
  | some z =>
    obtain ⟨n, r⟩ := z
    rw [h1] at HSZ hD
    simp only at hD
    obtain ⟨hr, _, _, hn1, hn2⟩ := sizeP_end hl h1
    have HTK := Lib.hid (fun (y1 : Item) (hy : PAt B w0 R gt gp r y1) (L : List Item) (W : World) (h : Hp B w0 W (y1 :: R :: L)) => show Calls Tryz.prog 39 #[.pointer (some ⟨gp, 0, none⟩), .string ⟨#[100, 101, 115, 99]⟩] W fun e w' => e = .returned (.bool (seeT r descL)) ∧ ∃ y', PAt B w0 R gt gp (if seeT r descL then r.tail else r) y' ∧ Hp B w0 w' (y' :: R :: L) from take_any ⟨descL.toArray⟩ hr hy h)
    clear h1
    go_wp2_with (first | (refine hab ?_; (try clear hF); clear hS; intro wk hS; (try simp only [List.set_cons_zero, List.set_cons_succ, heap_size, heap_set_size] at hS); ((try clear hF); refine hfI ?_; intro hF)) | (go_at_call 45; (with_reducible refine Calls.mono (HSZ.out _ _ (rot2 hS)) ?_); clear hS; rintro e wk ⟨rfl, y1, HY1, hS⟩; replace hS := un2 hS; ((try clear hF); refine hfI ?_; intro hF)) | (go_at_call 39; (with_reducible refine Calls.mono (HTK.out _ HY1 _ _ (rot2 hS)) ?_); clear hS; rintro e wk ⟨rfl, y2, HY2, hS⟩; replace hS := un2 hS; ((try clear hF); refine hfI ?_; intro hF)))
    subst hD
    refine bodyPost_ret (v := .agg #[.int .i64 (n - 1), .bool (seeT r descL)]) (by simp [results, Tryz.results44, go_sem, hF]) rfl (by exact ⟨rfl, y2, HY2, hS.tail⟩)
theorem Tryz.elem_lI : Elem Tryz.prog 44 79 2 32 := by
  obtain ⟨i0, hi0, hz0, hz1, hz2⟩ := info_parts (show (Tryz.prog.info? 79).map (fun i => (i.zero, i.size, i.bytes)) = some (some (.agg #[.string ⟨#[]⟩, .string ⟨#[]⟩]), 2, 32) by kernel_rfl)
  exact ⟨Tryz.underlying44, ⟨i0, _, hi0, hz0, hz1, hz2, rfl⟩, by omega⟩
def cellsQI : List (IT) → List Value
  | [] => []
  | x :: l => [Value.string x.fn, .string x.col] ++ cellsQI l
theorem cellsQI_append : ∀ l m : List (IT), cellsQI (l ++ m) = cellsQI l ++ cellsQI m
  | [], m => rfl
  | x :: l, m => by simp [cellsQI, cellsQI_append l m]
def ListIRes (B : Nat) (w0 : World) (R : Item) (gt gp : Nat) (M : List Item) (r : Option (List (IT) × List Tk)) (e : Ending) (w' : World) : Prop := match r with
  | some (xs, r) => ∃ (A : Option Addr) (n cap : Nat), e = .returned (.slice A n cap) ∧ Hid (xs.length = n) ∧ n ≤ 1000 ∧ ∃ y', PAt B w0 R gt gp r y' ∧ Hp B w0 w' (.row 79 2 A n cap (cellsQI xs) :: y' :: R :: M)
  | none => Fails e ∧ Hp B w0 w' M
set_option maxRecDepth 100000 in
set_option maxHeartbeats 8000000 in
theorem listI_any {B : Nat} {w0 w : World} {R : Item} {gt gp : Nat} {l : List Tk} {y : Item} {M : List Item} (hE : EnvQ B w0 R) (hl : EndT l) (hok : ∀ t ∈ l, TkOk 5000 t) (hln : l.length ≤ 900) (hP : PAt B w0 R gt gp l y) (hS : Hp B w0 w (y :: R :: M)) :
    Calls Tryz.prog 37 #[.pointer (some ⟨gp, 0, none⟩), .func (.func 38) #[.pointer (some ⟨gp, 0, none⟩)] #[]] w (ListIRes B w0 R gt gp M (listP (itemP) l)) := by
  have HOK := Lib.hid hok
  have HC := Lib.hid (fun (q : List Tk) (hq : EndT q) (hqo : ∀ t ∈ q, t ∈ l) (y : Item) (hy : PAt B w0 R gt gp q y) (L : List Item) (hL : ∀ W, Hp B w0 W L → Hp B w0 W M) (W : World) (h : Hp B w0 W (y :: R :: L)) => item_any hE hq hy h)
  have HTK := Lib.hid (fun (q : List Tk) (hq : EndT q) (y : Item) (hy : PAt B w0 R gt gp q y) (L : List Item) (W : World) (h : Hp B w0 W (y :: R :: L)) => take_any ⟨#[44]⟩ hq hy h)
  obtain ⟨D, hD⟩ : ∃ D, D = listP (itemP) l := ⟨_, rfl⟩
  rw [← hD]
  unfold listP at hD
  have HC1 := Lib.hid (HC.out l hl (fun t h => h) y hP M (fun W h => h))
  clear hE hok hP
  have hR := Reads.nil w
  go_enter Tryz.func37, Tryz.ntmps37
  cases h1 : itemP l with
  | none => as_aux_lemma =>
    rw [h1] at HC1 hD
    simp only at hD
    subst hD
    clear h1 HC HTK
    go_wp2_with (first | (refine hab ?_; (try clear hF); clear hS; intro wk hS; (try simp only [List.set_cons_zero, List.set_cons_succ, heap_size, heap_set_size] at hS); ((try clear hF); refine hfI ?_; intro hF)) | (go_at_call 38; (with_reducible refine Calls.mono (HC1.out _ hS) ?_); clear hS; rintro e wk ⟨⟨tp, pv, rfl⟩, hS⟩))
    exact ⟨rfl, ⟨_, _, rfl⟩, hS⟩
  | some z =>
    obtain ⟨x, r⟩ := z
    rw [h1] at HC1 hD
    simp only at hD
    obtain ⟨hr, hro, hrl⟩ := itemP_end hl h1
    have HR0 := Lib.hid hr
    have HO0 := Lib.hid hro
    have HD0 := Lib.hid hD
    clear h1 hr hro hD
    go_wp2_with (first | (refine hab ?_; (try clear hF); clear hS; intro wk hS; (try simp only [List.set_cons_zero, List.set_cons_succ, heap_size, heap_set_size] at hS); ((try clear hF); refine hfI ?_; intro hF)) | (go_at_call 38; (with_reducible refine Calls.mono (HC1.out _ hS) ?_); clear hS; rintro e wk ⟨rfl, y1, HY1, hS⟩))
    have hS1 := (hS.blkRow (size := 2) (n := 1) rfl (by omega))
    obtain ⟨gl, hgl⟩ : ∃ g, g = wk.heap.size := ⟨_, rfl⟩
    have HY0 := Lib.hid HY1
    clear hS HC1 HY1
    go_loopw [5] (fun s5 wr => ∃ (A : Option Addr) (k cap fu : Nat) (xs : List (IT)) (q : List Tk) (y2 : Item), s5 = .slice A k cap ∧ Hid (xs.length = k) ∧ k + q.length ≤ 1000 ∧ Hid (EndT q) ∧ Hid (∀ t ∈ q, t ∈ l) ∧ Hid (D = listQ (itemP) fu xs q) ∧ Hid (q.length < fu) ∧ Hid (PAt B w0 R gt gp q y2) ∧ Hp B w0 wr (.row 79 2 A k cap (cellsQI xs) :: y2 :: R :: M)) (fun s5 _ => 1000 - lenV s5)
    case atStart => exact ⟨_, 1, 1, r.length + 1, [x], r, y1, rfl, Lib.hid rfl, by omega, HR0, HO0, HD0, Lib.hid (Nat.lt_succ_self _), HY0, hS1⟩
    case round =>
      clear hS1 HY0 HD0 HO0 HR0 hrl hln hl
      obtain ⟨A, k, cap, fu, xs, q, y2, rfl, HXL, hkq, HQ, HQO, HD, HFU, HY2, hS⟩ := hrel
      have HT1 := Lib.hid (HTK.out q HQ.out y2 HY2.out)
      have hq0 : 0 < q.length := List.length_pos_iff.2 HQ.out.ne
      have hfu0 : ∃ f2, fu = f2 + 1 := ⟨fu - 1, by have := HFU.out; omega⟩
      obtain ⟨f2, rfl⟩ := hfu0
      have hD := HD.out
      rw [listQ] at hD
      cases h2 : seeT q [44] with
      | false => as_aux_lemma =>
        have h2' : seeT q (⟨#[44]⟩ : ByteArray).data.toList = false := h2
        rw [h2'] at HT1
        rw [h2] at hD
        simp only [Bool.false_eq_true, if_false] at HT1 hD
        subst hD
        clear h2 h2' HC HTK HD HFU
        go_wp2_with (first | (refine hab ?_; (try clear hF); clear hS; intro wk hS; (try simp only [List.set_cons_zero, List.set_cons_succ, heap_size, heap_set_size] at hS); ((try clear hF); refine hfI ?_; intro hF)) | (go_at_call 39; (with_reducible refine Calls.mono (HT1.out _ _ (rot2 hS)) ?_); clear hS; rintro e wk ⟨rfl, y3, HY3, hS⟩; replace hS := un2 hS))
        go_ret
        exact ⟨A, k, cap, rfl, HXL, by omega, y3, HY3, hS⟩
      | true =>
        have h2' : seeT q (⟨#[44]⟩ : ByteArray).data.toList = true := h2
        rw [h2'] at HT1
        rw [h2] at hD
        simp only [if_true] at HT1 hD
        have hq1 := HQ.out.tail h2
        have hqt : ∀ t ∈ q.tail, t ∈ l := fun t ht => HQO.out t (List.mem_of_mem_tail ht)
        have hqtl : q.tail.length + 1 = q.length := by rw [List.length_tail]; omega
        obtain ⟨q1, hq1e⟩ : ∃ x, x = q.tail := ⟨_, rfl⟩
        rw [← hq1e] at HT1 hD hq1 hqt hqtl
        have HC2 := Lib.hid (HC.out q1 hq1 hqt)
        have HFU2 := Lib.hid (show q1.length < f2 by have := HFU.out; omega)
        clear h2 h2' HFU hq1e HD HTK
        cases h3 : itemP q1 with
        | none => as_aux_lemma =>
          rw [h3] at HC2 hD
          simp only at hD
          subst hD
          clear h3 HC
          go_wp2_with (first | (refine hab ?_; (try clear hF); clear hS; intro wk hS; (try simp only [List.set_cons_zero, List.set_cons_succ, heap_size, heap_set_size] at hS); ((try clear hF); refine hfI ?_; intro hF)) | (go_at_call 39; (with_reducible refine Calls.mono (HT1.out _ _ (rot2 hS)) ?_); clear hS; rintro e wk ⟨rfl, y3, HY3, hS⟩; replace hS := un2 hS) | (go_at_call 38; (with_reducible refine Calls.mono (HC2.out _ HY3 _ (fun W h => h.tail) _ (rot2 hS)) ?_); clear hS; rintro e wk ⟨⟨tp, pv, rfl⟩, hS⟩))
          exact ⟨rfl, ⟨_, _, rfl⟩, hS.tail⟩
        | some z =>
          obtain ⟨x2, q2⟩ := z
          rw [h3] at HC2 hD
          simp only at hD
          obtain ⟨hr, hro, hrl⟩ := itemP_end hq1 h3
          have HR2 := Lib.hid hr
          have HO2 := Lib.hid (fun t (h : t ∈ q2) => hqt t (hro t h))
          have HD2 := Lib.hid hD
          have HF3 := Lib.hid (show q2.length < f2 by have := HFU2.out; omega)
          clear h3 HC hr hro hD HFU2 hq1 hqt
          go_wp2_with (first | (refine hab ?_; (try clear hF); clear hS; intro wk hS; (try simp only [List.set_cons_zero, List.set_cons_succ, heap_size, heap_set_size] at hS); ((try clear hF); refine hfI ?_; intro hF)) | (go_at_call 39; (with_reducible refine Calls.mono (HT1.out _ _ (rot2 hS)) ?_); clear hS; rintro e wk ⟨rfl, y3, HY3, hS⟩; replace hS := un2 hS) | (go_at_call 38; (with_reducible refine Calls.mono (HC2.out _ HY3 _ (fun W h => h.tail) _ (rot2 hS)) ?_); clear hS; rintro e wk ⟨rfl, y4, HY4, hS⟩; replace hS := un2 hS) | (at_builtin; refine wpList_push_hp Tryz.elem_lI rfl (.tmp 11) (.tmp 14) rfl (hS.second 0 rfl) rfl rfl rfl (by simp [Value.oneCell']) (by omega) (by omega) ?_; clear hS; intro Ak capk wk hS; (try simp only [List.eraseIdx_cons_zero, List.eraseIdx_cons_succ, List.set_cons_zero, List.set_cons_succ] at hS)))
          go_roundw
          case rel => exact ⟨_, k + 1, _, f2, xs ++ [x2], q2, y4, rfl, Lib.hid (by rw [List.length_append, HXL.out]; rfl), by omega, HR2, HO2, HD2, HF3, Lib.hid HY4, by rw [cellsQI_append]; exact hS⟩
          case measure => simp [lenV]; omega
theorem Tryz.elem_lS : Elem Tryz.prog 46 9 1 16 := by
  obtain ⟨i0, hi0, hz0, hz1, hz2⟩ := info_parts (show (Tryz.prog.info? 9).map (fun i => (i.zero, i.size, i.bytes)) = some (some (.string ⟨#[]⟩), 1, 16) by kernel_rfl)
  exact ⟨Tryz.underlying46, ⟨i0, _, hi0, hz0, hz1, hz2, rfl⟩, by omega⟩
def cellsQS : List (ByteArray) → List Value
  | [] => []
  | x :: l => [Value.string x] ++ cellsQS l
theorem cellsQS_append : ∀ l m : List (ByteArray), cellsQS (l ++ m) = cellsQS l ++ cellsQS m
  | [], m => rfl
  | x :: l, m => by simp [cellsQS, cellsQS_append l m]
def ListSRes (B : Nat) (w0 : World) (R : Item) (gt gp : Nat) (M : List Item) (r : Option (List (ByteArray) × List Tk)) (e : Ending) (w' : World) : Prop := match r with
  | some (xs, r) => ∃ (A : Option Addr) (n cap : Nat), e = .returned (.slice A n cap) ∧ Hid (xs.length = n) ∧ n ≤ 1000 ∧ ∃ y', PAt B w0 R gt gp r y' ∧ Hp B w0 w' (.row 9 1 A n cap (cellsQS xs) :: y' :: R :: M)
  | none => Fails e ∧ Hp B w0 w' M
set_option maxRecDepth 100000 in
set_option maxHeartbeats 8000000 in
theorem listS_any {B : Nat} {w0 w : World} {R : Item} {gt gp : Nat} {l : List Tk} {y : Item} {M : List Item} (hE : EnvQ B w0 R) (hl : EndT l) (hok : ∀ t ∈ l, TkOk 5000 t) (hln : l.length ≤ 900) (hP : PAt B w0 R gt gp l y) (hS : Hp B w0 w (y :: R :: M)) :
    Calls Tryz.prog 41 #[.pointer (some ⟨gp, 0, none⟩), .func (.func 42) #[.pointer (some ⟨gp, 0, none⟩)] #[]] w (ListSRes B w0 R gt gp M (listP (nameP) l)) := by
  have HOK := Lib.hid hok
  have HC := Lib.hid (fun (q : List Tk) (hq : EndT q) (hqo : ∀ t ∈ q, t ∈ l) (y : Item) (hy : PAt B w0 R gt gp q y) (L : List Item) (hL : ∀ W, Hp B w0 W L → Hp B w0 W M) (W : World) (h : Hp B w0 W (y :: R :: L)) => name_par hE.1 hq hy h)
  have HTK := Lib.hid (fun (q : List Tk) (hq : EndT q) (y : Item) (hy : PAt B w0 R gt gp q y) (L : List Item) (W : World) (h : Hp B w0 W (y :: R :: L)) => take_any ⟨#[44]⟩ hq hy h)
  obtain ⟨D, hD⟩ : ∃ D, D = listP (nameP) l := ⟨_, rfl⟩
  rw [← hD]
  unfold listP at hD
  have HC1 := Lib.hid (HC.out l hl (fun t h => h) y hP M (fun W h => h))
  clear hE hok hP
  have hR := Reads.nil w
  go_enter Tryz.func41, Tryz.ntmps41
  cases h1 : nameP l with
  | none => as_aux_lemma =>
    rw [h1] at HC1 hD
    simp only at hD
    subst hD
    clear h1 HC HTK
    go_wp2_with (first | (refine hab ?_; (try clear hF); clear hS; intro wk hS; (try simp only [List.set_cons_zero, List.set_cons_succ, heap_size, heap_set_size] at hS); ((try clear hF); refine hfI ?_; intro hF)) | (go_at_call 42; (with_reducible refine Calls.mono (HC1.out _ hS) ?_); clear hS; rintro e wk ⟨⟨tp, pv, rfl⟩, hS⟩))
    exact ⟨rfl, ⟨_, _, rfl⟩, hS⟩
  | some z =>
    obtain ⟨x, r⟩ := z
    rw [h1] at HC1 hD
    simp only at hD
    obtain ⟨hr, hro, hrl⟩ := nameP_end hl h1
    have HR0 := Lib.hid hr
    have HO0 := Lib.hid hro
    have HD0 := Lib.hid hD
    clear h1 hr hro hD
    go_wp2_with (first | (refine hab ?_; (try clear hF); clear hS; intro wk hS; (try simp only [List.set_cons_zero, List.set_cons_succ, heap_size, heap_set_size] at hS); ((try clear hF); refine hfI ?_; intro hF)) | (go_at_call 42; (with_reducible refine Calls.mono (HC1.out _ hS) ?_); clear hS; rintro e wk ⟨rfl, y1, HY1, hS⟩))
    have hS1 := (hS.blkRow (size := 1) (n := 1) rfl (by omega))
    obtain ⟨gl, hgl⟩ : ∃ g, g = wk.heap.size := ⟨_, rfl⟩
    have HY0 := Lib.hid HY1
    clear hS HC1 HY1
    go_loopw [5] (fun s5 wr => ∃ (A : Option Addr) (k cap fu : Nat) (xs : List (ByteArray)) (q : List Tk) (y2 : Item), s5 = .slice A k cap ∧ Hid (xs.length = k) ∧ k + q.length ≤ 1000 ∧ Hid (EndT q) ∧ Hid (∀ t ∈ q, t ∈ l) ∧ Hid (D = listQ (nameP) fu xs q) ∧ Hid (q.length < fu) ∧ Hid (PAt B w0 R gt gp q y2) ∧ Hp B w0 wr (.row 9 1 A k cap (cellsQS xs) :: y2 :: R :: M)) (fun s5 _ => 1000 - lenV s5)
    case atStart => exact ⟨_, 1, 1, r.length + 1, [x], r, y1, rfl, Lib.hid rfl, by omega, HR0, HO0, HD0, Lib.hid (Nat.lt_succ_self _), HY0, hS1⟩
    case round =>
      clear hS1 HY0 HD0 HO0 HR0 hrl hln hl
      obtain ⟨A, k, cap, fu, xs, q, y2, rfl, HXL, hkq, HQ, HQO, HD, HFU, HY2, hS⟩ := hrel
      have HT1 := Lib.hid (HTK.out q HQ.out y2 HY2.out)
      have hq0 : 0 < q.length := List.length_pos_iff.2 HQ.out.ne
      have hfu0 : ∃ f2, fu = f2 + 1 := ⟨fu - 1, by have := HFU.out; omega⟩
      obtain ⟨f2, rfl⟩ := hfu0
      have hD := HD.out
      rw [listQ] at hD
      cases h2 : seeT q [44] with
      | false => as_aux_lemma =>
        have h2' : seeT q (⟨#[44]⟩ : ByteArray).data.toList = false := h2
        rw [h2'] at HT1
        rw [h2] at hD
        simp only [Bool.false_eq_true, if_false] at HT1 hD
        subst hD
        clear h2 h2' HC HTK HD HFU
        go_wp2_with (first | (refine hab ?_; (try clear hF); clear hS; intro wk hS; (try simp only [List.set_cons_zero, List.set_cons_succ, heap_size, heap_set_size] at hS); ((try clear hF); refine hfI ?_; intro hF)) | (go_at_call 39; (with_reducible refine Calls.mono (HT1.out _ _ (rot2 hS)) ?_); clear hS; rintro e wk ⟨rfl, y3, HY3, hS⟩; replace hS := un2 hS))
        go_ret
        exact ⟨A, k, cap, rfl, HXL, by omega, y3, HY3, hS⟩
      | true =>
        have h2' : seeT q (⟨#[44]⟩ : ByteArray).data.toList = true := h2
        rw [h2'] at HT1
        rw [h2] at hD
        simp only [if_true] at HT1 hD
        have hq1 := HQ.out.tail h2
        have hqt : ∀ t ∈ q.tail, t ∈ l := fun t ht => HQO.out t (List.mem_of_mem_tail ht)
        have hqtl : q.tail.length + 1 = q.length := by rw [List.length_tail]; omega
        obtain ⟨q1, hq1e⟩ : ∃ x, x = q.tail := ⟨_, rfl⟩
        rw [← hq1e] at HT1 hD hq1 hqt hqtl
        have HC2 := Lib.hid (HC.out q1 hq1 hqt)
        have HFU2 := Lib.hid (show q1.length < f2 by have := HFU.out; omega)
        clear h2 h2' HFU hq1e HD HTK
        cases h3 : nameP q1 with
        | none => as_aux_lemma =>
          rw [h3] at HC2 hD
          simp only at hD
          subst hD
          clear h3 HC
          go_wp2_with (first | (refine hab ?_; (try clear hF); clear hS; intro wk hS; (try simp only [List.set_cons_zero, List.set_cons_succ, heap_size, heap_set_size] at hS); ((try clear hF); refine hfI ?_; intro hF)) | (go_at_call 39; (with_reducible refine Calls.mono (HT1.out _ _ (rot2 hS)) ?_); clear hS; rintro e wk ⟨rfl, y3, HY3, hS⟩; replace hS := un2 hS) | (go_at_call 42; (with_reducible refine Calls.mono (HC2.out _ HY3 _ (fun W h => h.tail) _ (rot2 hS)) ?_); clear hS; rintro e wk ⟨⟨tp, pv, rfl⟩, hS⟩))
          exact ⟨rfl, ⟨_, _, rfl⟩, hS.tail⟩
        | some z =>
          obtain ⟨x2, q2⟩ := z
          rw [h3] at HC2 hD
          simp only at hD
          obtain ⟨hr, hro, hrl⟩ := nameP_end hq1 h3
          have HR2 := Lib.hid hr
          have HO2 := Lib.hid (fun t (h : t ∈ q2) => hqt t (hro t h))
          have HD2 := Lib.hid hD
          have HF3 := Lib.hid (show q2.length < f2 by have := HFU2.out; omega)
          clear h3 HC hr hro hD HFU2 hq1 hqt
          go_wp2_with (first | (refine hab ?_; (try clear hF); clear hS; intro wk hS; (try simp only [List.set_cons_zero, List.set_cons_succ, heap_size, heap_set_size] at hS); ((try clear hF); refine hfI ?_; intro hF)) | (go_at_call 39; (with_reducible refine Calls.mono (HT1.out _ _ (rot2 hS)) ?_); clear hS; rintro e wk ⟨rfl, y3, HY3, hS⟩; replace hS := un2 hS) | (go_at_call 42; (with_reducible refine Calls.mono (HC2.out _ HY3 _ (fun W h => h.tail) _ (rot2 hS)) ?_); clear hS; rintro e wk ⟨rfl, y4, HY4, hS⟩; replace hS := un2 hS) | (at_builtin; refine wpList_push_hp Tryz.elem_lS rfl (.tmp 11) (.tmp 14) rfl (hS.second 0 rfl) rfl rfl rfl (by simp [Value.oneCell']) (by omega) (by omega) ?_; clear hS; intro Ak capk wk hS; (try simp only [List.eraseIdx_cons_zero, List.eraseIdx_cons_succ, List.set_cons_zero, List.set_cons_succ] at hS)))
          go_roundw
          case rel => exact ⟨_, k + 1, _, f2, xs ++ [x2], q2, y4, rfl, Lib.hid (by rw [List.length_append, HXL.out]; rfl), by omega, HR2, HO2, HD2, HF3, Lib.hid HY4, by rw [cellsQS_append]; exact hS⟩
          case measure => simp [lenV]; omega
theorem Tryz.elem_lO : Elem Tryz.prog 47 87 2 16 := by
  obtain ⟨i0, hi0, hz0, hz1, hz2⟩ := info_parts (show (Tryz.prog.info? 87).map (fun i => (i.zero, i.size, i.bytes)) = some (some (.agg #[.int .i64 0, .bool false]), 2, 16) by kernel_rfl)
  exact ⟨Tryz.underlying47, ⟨i0, _, hi0, hz0, hz1, hz2, rfl⟩, by omega⟩
def cellsQO : List (Int × Bool) → List Value
  | [] => []
  | x :: l => [Value.int .i64 x.1, .bool x.2] ++ cellsQO l
theorem cellsQO_append : ∀ l m : List (Int × Bool), cellsQO (l ++ m) = cellsQO l ++ cellsQO m
  | [], m => rfl
  | x :: l, m => by simp [cellsQO, cellsQO_append l m]
def ListORes (B : Nat) (w0 : World) (R : Item) (gt gp : Nat) (M : List Item) (r : Option (List (Int × Bool) × List Tk)) (e : Ending) (w' : World) : Prop := match r with
  | some (xs, r) => ∃ (A : Option Addr) (n cap : Nat), e = .returned (.slice A n cap) ∧ Hid (xs.length = n) ∧ n ≤ 1000 ∧ ∃ y', PAt B w0 R gt gp r y' ∧ Hp B w0 w' (.row 87 2 A n cap (cellsQO xs) :: y' :: R :: M)
  | none => Fails e ∧ Hp B w0 w' M
set_option maxRecDepth 100000 in
set_option maxHeartbeats 8000000 in
theorem listO_any {B : Nat} {w0 w : World} {R : Item} {gt gp : Nat} {l : List Tk} {y : Item} {M : List Item} {g1 g3 : Nat} {Aq : Option Addr} {nq cq : Nat} (hE : EnvQ B w0 R) (hl : EndT l) (hok : ∀ t ∈ l, TkOk 5000 t) (hln : l.length ≤ 900) (hnq : nq ≤ 1000) (hqc : ∀ W, Hp B w0 W M → W.cell? ⟨g1, 0, none⟩ = some (.pointer (some ⟨gp, 0, none⟩)) ∧ W.cell? ⟨g3, 0, none⟩ = some (.slice Aq nq cq)) (hP : PAt B w0 R gt gp l y) (hS : Hp B w0 w (y :: R :: M)) :
    Calls Tryz.prog 43 #[.pointer (some ⟨gp, 0, none⟩), .func (.func 44) #[] #[.pointer (some ⟨g1, 0, none⟩), .pointer (some ⟨g3, 0, none⟩)]] w (ListORes B w0 R gt gp M (listP (orderP nq) l)) := by
  have HOK := Lib.hid hok
  have HC := Lib.hid (fun (q : List Tk) (hq : EndT q) (hqo : ∀ t ∈ q, t ∈ l) (y : Item) (hy : PAt B w0 R gt gp q y) (L : List Item) (hL : ∀ W, Hp B w0 W L → Hp B w0 W M) (W : World) (h : Hp B w0 W (y :: R :: L)) => order_any hE hq (fun t ht => HOK.out t (hqo t ht)) hnq (fun W h => hqc W (hL W h)) hy h)
  have HTK := Lib.hid (fun (q : List Tk) (hq : EndT q) (y : Item) (hy : PAt B w0 R gt gp q y) (L : List Item) (W : World) (h : Hp B w0 W (y :: R :: L)) => take_any ⟨#[44]⟩ hq hy h)
  obtain ⟨D, hD⟩ : ∃ D, D = listP (orderP nq) l := ⟨_, rfl⟩
  rw [← hD]
  unfold listP at hD
  have HC1 := Lib.hid (HC.out l hl (fun t h => h) y hP M (fun W h => h))
  clear hE hok hP
  have hR := Reads.nil w
  go_enter Tryz.func43, Tryz.ntmps43
  cases h1 : orderP nq l with
  | none => as_aux_lemma =>
    rw [h1] at HC1 hD
    simp only at hD
    subst hD
    clear h1 HC HTK
    go_wp2_with (first | (refine hab ?_; (try clear hF); clear hS; intro wk hS; (try simp only [List.set_cons_zero, List.set_cons_succ, heap_size, heap_set_size] at hS); ((try clear hF); refine hfI ?_; intro hF)) | (go_at_call 44; (with_reducible refine Calls.mono (HC1.out _ hS) ?_); clear hS; rintro e wk ⟨⟨tp, pv, rfl⟩, hS⟩))
    exact ⟨rfl, ⟨_, _, rfl⟩, hS⟩
  | some z =>
    obtain ⟨x, r⟩ := z
    rw [h1] at HC1 hD
    simp only at hD
    obtain ⟨hr, hro, hrl⟩ := orderP_end hl h1
    have HR0 := Lib.hid hr
    have HO0 := Lib.hid hro
    have HD0 := Lib.hid hD
    clear h1 hr hro hD
    go_wp2_with (first | (refine hab ?_; (try clear hF); clear hS; intro wk hS; (try simp only [List.set_cons_zero, List.set_cons_succ, heap_size, heap_set_size] at hS); ((try clear hF); refine hfI ?_; intro hF)) | (go_at_call 44; (with_reducible refine Calls.mono (HC1.out _ hS) ?_); clear hS; rintro e wk ⟨rfl, y1, HY1, hS⟩))
    have hS1 := (hS.blkRow (size := 2) (n := 1) rfl (by omega))
    obtain ⟨gl, hgl⟩ : ∃ g, g = wk.heap.size := ⟨_, rfl⟩
    have HY0 := Lib.hid HY1
    clear hS HC1 HY1
    go_loopw [5] (fun s5 wr => ∃ (A : Option Addr) (k cap fu : Nat) (xs : List (Int × Bool)) (q : List Tk) (y2 : Item), s5 = .slice A k cap ∧ Hid (xs.length = k) ∧ k + q.length ≤ 1000 ∧ Hid (EndT q) ∧ Hid (∀ t ∈ q, t ∈ l) ∧ Hid (D = listQ (orderP nq) fu xs q) ∧ Hid (q.length < fu) ∧ Hid (PAt B w0 R gt gp q y2) ∧ Hp B w0 wr (.row 87 2 A k cap (cellsQO xs) :: y2 :: R :: M)) (fun s5 _ => 1000 - lenV s5)
    case atStart => exact ⟨_, 1, 1, r.length + 1, [x], r, y1, rfl, Lib.hid rfl, by omega, HR0, HO0, HD0, Lib.hid (Nat.lt_succ_self _), HY0, hS1⟩
    case round =>
      clear hS1 HY0 HD0 HO0 HR0 hrl hln hl
      obtain ⟨A, k, cap, fu, xs, q, y2, rfl, HXL, hkq, HQ, HQO, HD, HFU, HY2, hS⟩ := hrel
      have HT1 := Lib.hid (HTK.out q HQ.out y2 HY2.out)
      have hq0 : 0 < q.length := List.length_pos_iff.2 HQ.out.ne
      have hfu0 : ∃ f2, fu = f2 + 1 := ⟨fu - 1, by have := HFU.out; omega⟩
      obtain ⟨f2, rfl⟩ := hfu0
      have hD := HD.out
      rw [listQ] at hD
      cases h2 : seeT q [44] with
      | false => as_aux_lemma =>
        have h2' : seeT q (⟨#[44]⟩ : ByteArray).data.toList = false := h2
        rw [h2'] at HT1
        rw [h2] at hD
        simp only [Bool.false_eq_true, if_false] at HT1 hD
        subst hD
        clear h2 h2' HC HTK HD HFU
        go_wp2_with (first | (refine hab ?_; (try clear hF); clear hS; intro wk hS; (try simp only [List.set_cons_zero, List.set_cons_succ, heap_size, heap_set_size] at hS); ((try clear hF); refine hfI ?_; intro hF)) | (go_at_call 39; (with_reducible refine Calls.mono (HT1.out _ _ (rot2 hS)) ?_); clear hS; rintro e wk ⟨rfl, y3, HY3, hS⟩; replace hS := un2 hS))
        go_ret
        exact ⟨A, k, cap, rfl, HXL, by omega, y3, HY3, hS⟩
      | true =>
        have h2' : seeT q (⟨#[44]⟩ : ByteArray).data.toList = true := h2
        rw [h2'] at HT1
        rw [h2] at hD
        simp only [if_true] at HT1 hD
        have hq1 := HQ.out.tail h2
        have hqt : ∀ t ∈ q.tail, t ∈ l := fun t ht => HQO.out t (List.mem_of_mem_tail ht)
        have hqtl : q.tail.length + 1 = q.length := by rw [List.length_tail]; omega
        obtain ⟨q1, hq1e⟩ : ∃ x, x = q.tail := ⟨_, rfl⟩
        rw [← hq1e] at HT1 hD hq1 hqt hqtl
        have HC2 := Lib.hid (HC.out q1 hq1 hqt)
        have HFU2 := Lib.hid (show q1.length < f2 by have := HFU.out; omega)
        clear h2 h2' HFU hq1e HD HTK
        cases h3 : orderP nq q1 with
        | none => as_aux_lemma =>
          rw [h3] at HC2 hD
          simp only at hD
          subst hD
          clear h3 HC
          go_wp2_with (first | (refine hab ?_; (try clear hF); clear hS; intro wk hS; (try simp only [List.set_cons_zero, List.set_cons_succ, heap_size, heap_set_size] at hS); ((try clear hF); refine hfI ?_; intro hF)) | (go_at_call 39; (with_reducible refine Calls.mono (HT1.out _ _ (rot2 hS)) ?_); clear hS; rintro e wk ⟨rfl, y3, HY3, hS⟩; replace hS := un2 hS) | (go_at_call 44; (with_reducible refine Calls.mono (HC2.out _ HY3 _ (fun W h => h.tail) _ (rot2 hS)) ?_); clear hS; rintro e wk ⟨⟨tp, pv, rfl⟩, hS⟩))
          exact ⟨rfl, ⟨_, _, rfl⟩, hS.tail⟩
        | some z =>
          obtain ⟨x2, q2⟩ := z
          rw [h3] at HC2 hD
          simp only at hD
          obtain ⟨hr, hro, hrl⟩ := orderP_end hq1 h3
          have HR2 := Lib.hid hr
          have HO2 := Lib.hid (fun t (h : t ∈ q2) => hqt t (hro t h))
          have HD2 := Lib.hid hD
          have HF3 := Lib.hid (show q2.length < f2 by have := HFU2.out; omega)
          clear h3 HC hr hro hD HFU2 hq1 hqt
          go_wp2_with (first | (refine hab ?_; (try clear hF); clear hS; intro wk hS; (try simp only [List.set_cons_zero, List.set_cons_succ, heap_size, heap_set_size] at hS); ((try clear hF); refine hfI ?_; intro hF)) | (go_at_call 39; (with_reducible refine Calls.mono (HT1.out _ _ (rot2 hS)) ?_); clear hS; rintro e wk ⟨rfl, y3, HY3, hS⟩; replace hS := un2 hS) | (go_at_call 44; (with_reducible refine Calls.mono (HC2.out _ HY3 _ (fun W h => h.tail) _ (rot2 hS)) ?_); clear hS; rintro e wk ⟨rfl, y4, HY4, hS⟩; replace hS := un2 hS) | (at_builtin; refine wpList_push_hp Tryz.elem_lO rfl (.tmp 11) (.tmp 14) rfl (hS.second 0 rfl) rfl rfl rfl (by simp [Value.oneCell']) (by omega) (by omega) ?_; clear hS; intro Ak capk wk hS; (try simp only [List.eraseIdx_cons_zero, List.eraseIdx_cons_succ, List.set_cons_zero, List.set_cons_succ] at hS)))
          go_roundw
          case rel => exact ⟨_, k + 1, _, f2, xs ++ [x2], q2, y4, rfl, Lib.hid (by rw [List.length_append, HXL.out]; rfl), by omega, HR2, HO2, HD2, HF3, Lib.hid HY4, by rw [cellsQO_append]; exact hS⟩
          case measure => simp [lenV]; omega
end Go.Proofs.YtlaldfkeaalnhaaGreatDoor
