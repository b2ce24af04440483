/- Texts joined: groups of a file, while they are built. rows of values that a call builds: in memory. millpondkeep.same: of lists that are the same. What a column is that comes in: its cells. Arguments that are columns, and rows of values: what their cells hold. schema.Find. query: what comes of rows: plain. The questions that the laws ask, as text, are read as what they ask: plain. slices.SortStableFunc at rows: swapRange. api.Tell. -/
import Derived.Test.YtlaldfkeaalnhaaGreatDoorQA10
import Derived.Test.YtlaldfkeaalnhaaGreatDoorQA03
import Derived.Test.YtlaldfkeaalnhaaGreatDoorQA04
import Derived.Test.YtlaldfkeaalnhaaGreatDoorQA05
import Derived.Test.YtlaldfkeaalnhaaGreatDoorQA01
import Derived.Lib.SmallJoins
import Derived.RegionTactic
import Derived.Test.YtlaldfkeaalnhaaGreatDoorQA07
/- groups of a file, while they are built. -/
namespace Go.Proofs.YtlaldfkeaalnhaaGreatDoor
set_option linter.all false
set_option linter.unusedSimpArgs false
set_option linter.unusedVariables false
open Go.RowKit
theorem Tryz.elem_stats : Elem Tryz.prog 111 38 8 80 := by
  obtain ⟨i0, hi0, hz0, hz1, hz2⟩ := info_parts (show (Tryz.prog.info? 38).map (fun i => (i.zero, i.size, i.bytes)) = some (some (.agg #[.int .i64 0, .int .i64 0, .int .i64 0, .int .i64 0, .string ⟨#[]⟩, .int .i64 0, .int .i64 0, .string ⟨#[]⟩]), 8, 80) by kernel_rfl)
  exact ⟨Tryz.underlying111, ⟨i0, _, hi0, hz0, hz1, hz2, rfl⟩, by omega⟩
theorem Tryz.elem_texts : Elem Tryz.prog 46 9 1 16 := by
  obtain ⟨i0, hi0, hz0, hz1, hz2⟩ := info_parts (show (Tryz.prog.info? 9).map (fun i => (i.zero, i.size, i.bytes)) = some (some (.string ⟨#[]⟩), 1, 16) by kernel_rfl)
  exact ⟨Tryz.underlying46, ⟨i0, _, hi0, hz0, hz1, hz2, rfl⟩, by omega⟩
theorem Tryz.elem_groups : Elem Tryz.prog 58 113 3 56 := by
  obtain ⟨i0, hi0, hz0, hz1, hz2⟩ := info_parts (show (Tryz.prog.info? 113).map (fun i => (i.zero, i.size, i.bytes)) = some (some (.agg #[.int .i64 0, .slice none 0 0, .slice none 0 0]), 3, 56) by kernel_rfl)
  exact ⟨Tryz.underlying58, ⟨i0, _, hi0, hz0, hz1, hz2, rfl⟩, by omega⟩
theorem hp_of_at {B : Nat} {w : World} {x : Item} (h : x.at B w) : Hp 0 w w [x] :=
  ⟨Below.refl 0 w, Nat.zero_le _, List.pairwise_singleton _ _, fun y hy => by rw [List.mem_singleton.1 hy]; exact h.mono (Nat.zero_le _)⟩
def cellsS : List ST → List Value
  | [] => []
  | x :: l => .int .i64 x.count :: .int .i64 x.nulls :: .int .i64 x.mn.kind :: .int .i64 x.mn.num :: .string x.mn.text :: .int .i64 x.mx.kind :: .int .i64 x.mx.num :: .string x.mx.text :: cellsS l
theorem cellsS_append : ∀ l m : List ST, cellsS (l ++ m) = cellsS l ++ cellsS m
  | [], m => rfl
  | x :: l, m => by rw [List.cons_append, cellsS, cellsS, cellsS_append l m]; rfl
theorem cellsS_at : ∀ (l : List ST) (i : Nat) (x : ST), l[i]? = some x → (cellsS l)[i * 8]? = some (.int .i64 x.count) ∧ (cellsS l)[i * 8 + 1]? = some (.int .i64 x.nulls) ∧ (cellsS l)[i * 8 + 2]? = some (.int .i64 x.mn.kind) ∧ (cellsS l)[i * 8 + 3]? = some (.int .i64 x.mn.num) ∧ (cellsS l)[i * 8 + 4]? = some (.string x.mn.text) ∧ (cellsS l)[i * 8 + 5]? = some (.int .i64 x.mx.kind) ∧ (cellsS l)[i * 8 + 6]? = some (.int .i64 x.mx.num) ∧ (cellsS l)[i * 8 + 7]? = some (.string x.mx.text)
  | [], i, x, h => by simp at h
  | y :: l, 0, x, h => by
    simp at h
    subst h
    exact ⟨rfl, rfl, rfl, rfl, rfl, rfl, rfl, rfl⟩
  | y :: l, i + 1, x, h => by
    have ih := cellsS_at l i x (by simpa using h)
    rw [show (i + 1) * 8 = i * 8 + 8 by omega]
    simpa [cellsS] using ih
theorem Hp.rk {B : Nat} {w0 w : World} {L : List Item} {A : Option Addr} {cap n : Nat} {l : List ST} (h : Hp B w0 w L) (i : Nat) (hi : L[i]? = some (.row 38 8 A n cap (cellsS l))) : RK w A l := fun j x hj => by
  obtain ⟨h0, h1, h2, h3, h4, h5, h6, h7⟩ := cellsS_at l j x hj
  obtain ⟨g, hg, c0, _⟩ := h.rowCell i hi h0
  obtain ⟨g1, hg1, c1, _⟩ := h.rowCell i hi h1
  obtain ⟨g2, hg2, c2, _⟩ := h.rowCell i hi h2
  obtain ⟨g3, hg3, c3, _⟩ := h.rowCell i hi h3
  obtain ⟨g4, hg4, c4, _⟩ := h.rowCell i hi h4
  obtain ⟨g5, hg5, c5, _⟩ := h.rowCell i hi h5
  obtain ⟨g6, hg6, c6, _⟩ := h.rowCell i hi h6
  obtain ⟨g7, hg7, c7, _⟩ := h.rowCell i hi h7
  subst hg
  obtain rfl : g = g1 := by simpa using hg1
  obtain rfl : g = g2 := by simpa using hg2
  obtain rfl : g = g3 := by simpa using hg3
  obtain rfl : g = g4 := by simpa using hg4
  obtain rfl : g = g5 := by simpa using hg5
  obtain rfl : g = g6 := by simpa using hg6
  obtain rfl : g = g7 := by simpa using hg7
  exact ⟨g, 0, rfl, by simpa using c0, by simpa using c1, by simpa using c2, by simpa using c3, by simpa using c4, by simpa using c5, by simpa using c6, by simpa using c7⟩
/-- the cells read as groups, as long as the things of K stand -/
structure GBuilt (K : List Item) (cells : List Value) (gs : List GG) : Prop where
  len : cells.length = gs.length * 3
  one : ∀ (i : Nat) (g : GG), gs[i]? = some g → ∃ (As : Option Addr) (cas : Nat) (Ab : Option Addr) (cab : Nat), cells[i * 3]? = some (.int .i64 g.rows) ∧ cells[i * 3 + 1]? = some (.slice As g.stats.length cas) ∧ cells[i * 3 + 2]? = some (.slice Ab g.bytes.length cab) ∧
    ∀ (B : Nat) (w : World), (∀ x ∈ K, x.at B w) → RK w As g.stats ∧ RS w Ab g.bytes
theorem GBuilt.nil (K : List Item) : GBuilt K [] [] := ⟨rfl, fun i g h => by simp at h⟩
theorem GBuilt.more {K M : List Item} {cells : List Value} {gs : List GG} (h : GBuilt K cells gs) (hs : ∀ x ∈ K, x ∈ M) : GBuilt M cells gs :=
  ⟨h.len, fun i g hi => by
    obtain ⟨As, cas, Ab, cab, h0, h1, h2, h3⟩ := h.one i g hi
    exact ⟨As, cas, Ab, cab, h0, h1, h2, fun B w hM => h3 B w fun x hx => hM x (hs x hx)⟩⟩
theorem GBuilt.push {K : List Item} {cells : List Value} {gs : List GG} (h : GBuilt K cells gs) (g : GG) (As : Option Addr) (ns cas : Nat) (Ab : Option Addr) (nb cab : Nat) (h1 : g.stats.length = ns) (h2 : g.bytes.length = nb)
    (hr : ∀ (B : Nat) (w : World), (∀ x ∈ K, x.at B w) → RK w As g.stats ∧ RS w Ab g.bytes) : GBuilt K (cells ++ [.int .i64 g.rows, .slice As ns cas, .slice Ab nb cab]) (gs ++ [g]) :=
  ⟨by rw [List.length_append, List.length_append, h.len]; simp; omega, fun i x hi => by
    by_cases hlt : i < gs.length
    · rw [List.getElem?_append_left hlt] at hi
      obtain ⟨A1, c1, A2, c2, k0, k1, k2, k3⟩ := h.one i x hi
      have hl := h.len
      exact ⟨A1, c1, A2, c2, by rw [List.getElem?_append_left (by omega)]; exact k0, by rw [List.getElem?_append_left (by omega)]; exact k1, by rw [List.getElem?_append_left (by omega)]; exact k2, k3⟩
    · have hil : i = gs.length := by
        have := (List.getElem?_eq_some_iff.1 hi).1
        simp at this
        omega
      subst hil
      rw [List.getElem?_append_right (Nat.le_refl _), Nat.sub_self] at hi
      obtain rfl : g = x := by simpa using hi
      have hl := h.len
      refine ⟨As, cas, Ab, cab, ?_, ?_, ?_, hr⟩
      · rw [List.getElem?_append_right (by omega), hl, Nat.sub_self]; rfl
      · rw [List.getElem?_append_right (by omega), hl, Nat.add_sub_cancel_left, h1]; rfl
      · rw [List.getElem?_append_right (by omega), hl, Nat.add_sub_cancel_left, h2]; rfl⟩
/-- the groups lie in the row at i, what they point at in the list -/
theorem Hp.rg {B : Nat} {w0 w : World} {L K : List Item} {A : Option Addr} {cap n : Nat} {cells : List Value} {gs : List GG} (h : Hp B w0 w L) (i : Nat) (hi : L[i]? = some (.row 113 3 A n cap cells)) (hK : ∀ x ∈ K, x ∈ L) (hg : GBuilt K cells gs) : RG w A gs := fun j g hj => by
  obtain ⟨As, cas, Ab, cab, h0, h1, h2, h3⟩ := hg.one j g hj
  obtain ⟨g0, e0, c0, _⟩ := h.rowCell i hi h0
  obtain ⟨g1, e1, c1, _⟩ := h.rowCell i hi h1
  obtain ⟨g2, e2, c2, _⟩ := h.rowCell i hi h2
  subst e0
  obtain rfl : g0 = g1 := by simpa using e1
  obtain rfl : g0 = g2 := by simpa using e2
  obtain ⟨r1, r2⟩ := h3 B w fun x hx => h.own x (hK x hx)
  exact ⟨g0, 0, As, cas, Ab, cab, rfl, by simpa using c0, by simpa using c1, by simpa using c2, r1, r2⟩
end Go.Proofs.YtlaldfkeaalnhaaGreatDoor

/- rows of values that a call builds: in memory. -/
namespace Go.Proofs.YtlaldfkeaalnhaaGreatDoor
set_option linter.all false
set_option linter.unusedSimpArgs false
set_option linter.unusedVariables false
open Go.RowKit
theorem Tryz.elem_rows : Elem Tryz.prog 23 35 1 24 := by
  obtain ⟨i0, hi0, hz0, hz1, hz2⟩ := info_parts (show (Tryz.prog.info? 35).map (fun i => (i.zero, i.size, i.bytes)) = some (some (.slice none 0 0), 1, 24) by kernel_rfl)
  exact ⟨Tryz.underlying23, ⟨i0, _, hi0, hz0, hz1, hz2, rfl⟩, by omega⟩
/-- a row: where it lies, its capacity, its values -/
abbrev Mx := Option Addr × Nat × List GV
abbrev hdV (x : Mx) : Value := .slice x.1 x.2.2.length x.2.1
abbrev rowI (x : Mx) : Item := .row 29 3 x.1 x.2.2.length x.2.1 (cellsV x.2.2)
abbrev mx0 : Mx := (none, 0, [])
section
variable {B : Nat} {w0 w : World} {L : List Item}
theorem Hp.setRow {xs : List Mx} {i : Nat} {x x' : Mx} (hi : xs[i]? = some x) (h : Hp B w0 w (rowI x' :: (L ++ (xs.map rowI).eraseIdx i))) : Hp B w0 w (L ++ (xs.set i x').map rowI) := by
  refine h.perm ?_
  rw [List.map_set]
  refine List.Perm.trans (List.Perm.append_left L (set_perm (xs.map rowI) i (rowI x) (rowI x') (by rw [List.getElem?_map, hi]; rfl))) ?_
  exact List.perm_middle
theorem Hp.rr {xs : List Mx} {gm n : Nat} (h : Hp B w0 w L) (k : Nat) (hk : L[k]? = some (.row 35 1 (some ⟨gm, 0, none⟩) n n (xs.map hdV))) (hx : ∀ x ∈ xs, rowI x ∈ L) : RR w (some ⟨gm, 0, none⟩) (xs.map (·.2.2)) := fun i r hi => by
  rw [List.getElem?_map] at hi
  cases hxi : xs[i]? with
  | none => rw [hxi] at hi; cases hi
  | some x =>
    rw [hxi] at hi
    obtain rfl : x.2.2 = r := by simpa using hi
    obtain ⟨g, hg, c0, _⟩ := h.rowCell k hk (j := i) (u := hdV x) (by rw [List.getElem?_map, hxi]; rfl)
    obtain rfl : gm = g := by simpa using hg
    exact ⟨gm, 0, x.1, x.2.1, rfl, by simpa using c0, (hp_of_at (h.own _ (hx x (List.mem_of_getElem? hxi)))).rv 0 rfl⟩
end
end Go.Proofs.YtlaldfkeaalnhaaGreatDoor

/- millpondkeep.same: of lists that are the same. -/
namespace Go.Proofs.YtlaldfkeaalnhaaGreatDoor
set_option linter.unusedSimpArgs false
set_option linter.unusedVariables false
open Go.RowKit
set_option linter.all false
set_option maxRecDepth 100000 in
set_option maxHeartbeats 8000000 in
theorem ksame1_any (l m : List GV) (A A2 : Option Addr) (cap cap2 : Nat) (w : World) (hr : RV w A l) (hr2 : RV w A2 m) (hl : l.length ≤ 140737488355328) (hl2 : m.length ≤ 140737488355328) :
    Calls Tryz.prog 29 #[.slice A l.length cap, .slice A2 m.length cap2] w fun e w' => e = .returned (.bool (eqL l m)) ∧ Ext w w' := by
  have HE := Lib.hid (fun (W : World) (hx : Ext w W) => equal_any l m A A2 cap cap2 W (hr.ext hx) (hr2.ext hx) hl hl2)
  generalize eqL l m = b at *
  generalize l.length = n at *
  generalize m.length = k at *
  have hS := Hp.init w
  have hR := Reads.nil w
  go_enter Tryz.func29, Tryz.ntmps29
  go_wp2_with (first | (refine hab ?_; (try clear hF); clear hS; intro wk hS; (try simp only [List.set_cons_zero, List.set_cons_succ, heap_size, heap_set_size] at hS); ((try clear hF); refine hfI ?_; intro hF)) | (go_at_call 19; (with_reducible refine (HE.out _ hS.ext).mono ?_); rintro e wk ⟨rfl, hX⟩; replace hS := hS.step hX; clear hX; ((try clear hF); refine hfI ?_; intro hF)))
  go_ret
  exact ⟨rfl, hS.ext⟩
set_option maxRecDepth 100000 in
set_option maxHeartbeats 8000000 in
theorem reqf_any (rs : List (List GV)) (A A2 : Option Addr) (cap cap2 : Nat) (w : World) (hr : RR w A rs) (hr2 : RR w A2 rs) (hl : rs.length ≤ 100000) (hl2 : ∀ r ∈ rs, r.length ≤ 100000) :
    Calls Tryz.prog 28 #[.slice A rs.length cap, .slice A2 rs.length cap2, .func (.func 29) #[] #[]] w fun e w' => e = .returned (.bool true) ∧ Ext w w' := by
  obtain ⟨n, hn⟩ : ∃ n, n = rs.length := ⟨_, rfl⟩
  rw [← hn] at hl ⊢
  have Hn := Lib.hid hn
  have HL2 := Lib.hid hl2
  clear hn hl2
  have hS := Hp.init w
  have hR := Reads.nil w
  go_enter Tryz.func28, Tryz.ntmps28
  go_wp2_with (first | (refine hab ?_; (try clear hF); clear hS; intro wk hS; (try simp only [List.set_cons_zero, List.set_cons_succ, heap_size, heap_set_size] at hS); ((try clear hF); refine hfI ?_; intro hF)) | fail)
  go_loopw [17] (fun i wr => ∃ k : Nat, i = .int .i64 k ∧ k ≤ n ∧ Hp w.heap.size w wr []) (fun i _ => n - (intOf i).toNat)
  case atStart => exact ⟨0, rfl, Nat.zero_le _, hS⟩
  case round =>
    clear hS
    obtain ⟨k, rfl, hk, hS⟩ := hrel
    by_cases hlt : k < n
    · obtain ⟨r, hr'⟩ : ∃ x, rs[k]? = some x := ⟨rs[k]'(by rw [← Hn.out]; exact hlt), List.getElem?_eq_getElem _⟩
      obtain ⟨b, o, A1, c1, rfl, h0, h1⟩ := hr k r hr'
      obtain ⟨b2, o2, A3, c3, rfl, h2, h3⟩ := hr2 k r hr'
      have hrl := HL2.out r (List.mem_of_getElem? hr')
      have HE := Lib.hid (fun (W : World) (hx : Ext w W) => show Calls Tryz.prog 29 #[.slice A1 r.length c1, .slice A3 r.length c3] W fun e w' => e = .returned (.bool true) ∧ Ext W w' from by
        have := ksame1_any r r A1 A3 c1 c3 W (h1.ext hx) (h3.ext hx) (by omega) (by omega)
        rw [(eqL_iff r r).2 rfl] at this
        exact this)
      obtain ⟨q, hq⟩ : ∃ q, q = r.length := ⟨_, rfl⟩
      rw [← hq] at h0 h2 HE hrl
      clear hR hq hr'
      have hR := Reads.cell h0 (Reads.cell h2 (Reads.nil w))
      clear h0 h1 h2 h3 hr hr2
      ((try clear hF); refine hfI ?_; intro hF)
      go_wp2_with (first | (refine hab ?_; (try clear hF); clear hS; intro wk hS; (try simp only [List.set_cons_zero, List.set_cons_succ, heap_size, heap_set_size] at hS); ((try clear hF); refine hfI ?_; intro hF)) | (go_at_call 29; (with_reducible refine (HE.out _ hS.ext).mono ?_); rintro e wk ⟨rfl, hX⟩; replace hS := hS.step hX; clear hX; ((try clear hF); refine hfI ?_; intro hF)))
      go_roundw
      case rel => exact ⟨k + 1, by go_num, by omega, hS⟩
      case measure => simp [intOf]; omega
    · obtain rfl : k = n := by omega
      ((try clear hF); refine hfI ?_; intro hF)
      go_wp2_with (first | (refine hab ?_; (try clear hF); clear hS; intro wk hS; (try simp only [List.set_cons_zero, List.set_cons_succ, heap_size, heap_set_size] at hS); ((try clear hF); refine hfI ?_; intro hF)) | fail)
      go_ret
      exact ⟨rfl, hS.ext⟩
set_option maxRecDepth 100000 in
set_option maxHeartbeats 8000000 in
theorem ksame_any (rs : List (List GV)) (A A2 : Option Addr) (cap cap2 : Nat) (w : World) (hr : RR w A rs) (hr2 : RR w A2 rs) (hl : rs.length ≤ 100000) (hl2 : ∀ r ∈ rs, r.length ≤ 100000) :
    Calls Tryz.prog 14 #[.slice A rs.length cap, .slice A2 rs.length cap2] w fun e w' => e = .returned (.bool true) ∧ Ext w w' := by
  have HE := Lib.hid (fun (W : World) (hx : Ext w W) => reqf_any rs A A2 cap cap2 W (hr.ext hx) (hr2.ext hx) hl hl2)
  generalize rs.length = n at *
  have hS := Hp.init w
  have hR := Reads.nil w
  go_enter Tryz.func14, Tryz.ntmps14
  go_wp2_with (first | (refine hab ?_; (try clear hF); clear hS; intro wk hS; (try simp only [List.set_cons_zero, List.set_cons_succ, heap_size, heap_set_size] at hS); ((try clear hF); refine hfI ?_; intro hF)) | (go_at_call 28; (with_reducible refine (HE.out _ hS.ext).mono ?_); rintro e wk ⟨rfl, hX⟩; replace hS := hS.step hX; clear hX; ((try clear hF); refine hfI ?_; intro hF)))
  go_ret
  exact ⟨rfl, hS.ext⟩
end Go.Proofs.YtlaldfkeaalnhaaGreatDoor

/- What a column is that comes in: its cells. -/
namespace Go.Proofs.YtlaldfkeaalnhaaGreatDoor
set_option linter.unusedSimpArgs false
set_option linter.unusedVariables false
open Go.RowKit
set_option linter.all false
open Go.ChangeShapes Go.WideShapes Go.ChangeAt Go.Joins Go.Deep
theorem Tryz.cellsBool : Tryz.prog.cellsOf 4 = 1 := by kernel_rfl
theorem Tryz.cellsCol : Tryz.prog.cellsOf 31 = 7 := by kernel_rfl
theorem trod_struct5 {H : Type} {enc : TypeId × Value → H} {P : Program} {w : World} {base : Nat} {spare : Nat → Bool} {held : Bool} {t : TypeId} {f0 f1 f2 f3 f4 : Field} {fuel : Nat} {cs : List Value} {x : DataW H × List MemPlace} (ht : P.underlying t = some (.struct #[f0, f1, f2, f3, f4])) (h : DataW.trod enc P w base spare held fuel t cs = some x) :
    ∃ y0 y1 y2 y3 y4 n, cs.length = P.cellsOf t ∧ DataW.trod enc P w base spare held n f0.type ((cs.drop f0.offset).take (P.cellsOf f0.type)) = some y0 ∧
      DataW.trod enc P w base spare held n f1.type ((cs.drop f1.offset).take (P.cellsOf f1.type)) = some y1 ∧ DataW.trod enc P w base spare held n f2.type ((cs.drop f2.offset).take (P.cellsOf f2.type)) = some y2 ∧
      DataW.trod enc P w base spare held n f3.type ((cs.drop f3.offset).take (P.cellsOf f3.type)) = some y3 ∧ DataW.trod enc P w base spare held n f4.type ((cs.drop f4.offset).take (P.cellsOf f4.type)) = some y4 := by
  obtain ⟨xs, n, _, rfl, hl, hlen, hf⟩ := DataW.trod_struct ht h
  match xs, hlen with
  | [y0, y1, y2, y3, y4], _ => exact ⟨y0, y1, y2, y3, y4, n, hl, by simpa using hf 0 f0 rfl, by simpa using hf 1 f1 rfl, by simpa using hf 2 f2 rfl, by simpa using hf 3 f3 rfl, by simpa using hf 4 f4 rfl⟩
section
variable {H : Type} {enc : TypeId × Value → H} {w : World} {base fuel : Nat} {spare : Nat → Bool} {held : Bool}
theorem gv_cells3 {c0 c1 c2 : Value} {x : DataW H × List MemPlace} (h : DataW.trod enc Tryz.prog w base spare held fuel 29 [c0, c1, c2] = some x) : ∃ p : GV, c0 = .int .i64 p.kind ∧ c1 = .int .i64 p.num ∧ c2 = .string p.text := by
  obtain ⟨y0, y1, y2, n, _, hl, h0, h1, h2⟩ := trod_struct3 Tryz.underlying29 h
  simp only [Tryz.cellsInt, Tryz.cellsInt64, Tryz.cellsString, List.drop_zero, List.drop_succ_cons, List.take_succ_cons, List.take_zero] at h0 h1 h2
  obtain ⟨kind, e2, _, _⟩ := DataW.trod_int Tryz.underlying3 h0
  obtain ⟨num, e3, _, _⟩ := DataW.trod_int Tryz.underlying2 h1
  obtain ⟨text, e4, _, _⟩ := DataW.trod_string Tryz.underlying9 h2
  simp only [List.cons.injEq, and_true] at e2 e3 e4
  exact ⟨⟨kind, num, text⟩, e2, e3, e4⟩
theorem col_cells {c0 c1 c2 c3 c4 c5 c6 : Value} {x : DataW H × List MemPlace} (h : DataW.trod enc Tryz.prog w base spare held fuel 31 [c0, c1, c2, c3, c4, c5, c6] = some x) : ∃ p : CG, c0 = .int .i64 p.id ∧ c1 = .string p.name ∧ c2 = .int .i64 p.kind ∧ c3 = .bool p.must ∧ c4 = .int .i64 p.d.kind ∧ c5 = .int .i64 p.d.num ∧ c6 = .string p.d.text := by
  obtain ⟨y0, y1, y2, y3, y4, n, hl, h0, h1, h2, h3, h4⟩ := trod_struct5 Tryz.underlying31 h
  simp only [Tryz.cellsInt, Tryz.cellsBool, Tryz.cellsString, Tryz.cellsVal, List.drop_zero, List.drop_succ_cons, List.take_succ_cons, List.take_zero] at h0 h1 h2 h3 h4
  obtain ⟨id, e0, _, _⟩ := DataW.trod_int Tryz.underlying3 h0
  obtain ⟨nm, e1, _, _⟩ := DataW.trod_string Tryz.underlying9 h1
  obtain ⟨kd, e2, _, _⟩ := DataW.trod_int Tryz.underlying3 h2
  obtain ⟨mu, e3, _⟩ := DataW.trod_bool Tryz.underlying4 h3
  obtain ⟨d, e4, e5, e6⟩ := gv_cells3 h4
  simp only [List.cons.injEq, and_true] at e0 e1 e2 e3
  exact ⟨⟨id, nm, kd, mu, d⟩, e0, e1, e2, e3, e4, e5, e6⟩
end
end Go.Proofs.YtlaldfkeaalnhaaGreatDoor

/- Arguments that are columns, and rows of values: what their cells hold. -/
namespace Go.Proofs.YtlaldfkeaalnhaaGreatDoor
set_option linter.unusedSimpArgs false
set_option linter.unusedVariables false
open Go.RowKit
set_option linter.all false
open Go.ChangeShapes Go.WideShapes Go.ChangeAt Go.Joins Go.Deep
theorem Tryz.cellsVals : Tryz.prog.cellsOf 35 = 1 := by kernel_rfl
section
variable {H : Type} {enc : TypeId × Value → H} {w : World} {base fuel : Nat} {spare : Nat → Bool} {held : Bool}
set_option maxRecDepth 100000 in
theorem col_cells64 {c0 c1 c2 c3 c4 c5 c6 : Value} {x : DataW H × List MemPlace} (h : DataW.trod enc Tryz.prog w base spare held fuel 31 [c0, c1, c2, c3, c4, c5, c6] = some x) : ∃ p : CG, (c0 = .int .i64 p.id ∧ c1 = .string p.name ∧ c2 = .int .i64 p.kind ∧ c3 = .bool p.must ∧ c4 = .int .i64 p.d.kind ∧ c5 = .int .i64 p.d.num ∧ c6 = .string p.d.text) ∧ i64 p.id := by
  obtain ⟨p, h0, h1⟩ := col_cells h
  refine ⟨p, ⟨h0, h1⟩, ?_⟩
  obtain ⟨y0, y1, y2, y3, y4, n, hl, h0', _⟩ := trod_struct5 Tryz.underlying31 h
  simp only [Tryz.cellsInt, List.drop_zero, List.take_succ_cons, List.take_zero] at h0'
  obtain ⟨id, e0, _, w0⟩ := DataW.trod_int Tryz.underlying3 h0'
  simp only [List.cons.injEq, and_true] at e0
  rw [h0] at e0
  obtain rfl : p.id = id := by simpa using e0
  exact i64_wf w0
/-- the cells of columns -/
def colC (c : CG) : List Value := [.int .i64 c.id, .string c.name, .int .i64 c.kind, .bool c.must, .int .i64 c.d.kind, .int .i64 c.d.num, .string c.d.text]
set_option maxRecDepth 100000 in
theorem cols_cells {cs : List Value} {x : DataW H × List MemPlace} (h : DataW.trod enc Tryz.prog w base spare held fuel 22 cs = some x) :
    ∃ (l : List CG) (A : Option Addr) (c : Nat), cs = [.slice A l.length c] ∧ RC w A l ∧ l.length ≤ c ∧ ∀ x ∈ l, i64 x.id := by
  rcases open_slice Tryz.underlying22 h with ⟨hcs, hx⟩ | ⟨a, len, cap, m, n, D, Pl, hcs, hb, hl, hm, hmm, hx, hi⟩
  · subst hcs
    exact ⟨[], none, 0, rfl, fun i x hi => by simp at hi, by simp, fun x h => by cases h⟩
  · subst hcs
    rw [Tryz.cellsCol] at hi
    have hlm : len ≤ m := by rw [hmm]; split <;> omega
    obtain ⟨l, hll, hq⟩ := list_of (Q := fun i (x : CG) => i64 x.id ∧ ∀ j u, (colC x)[j]? = some u → w.cell? (a.add (i * 7 + j)) = some u) len (fun i hil => by
      obtain ⟨cs', hc, ht⟩ := hi i (by omega)
      obtain ⟨_, hcl, hat⟩ := World.cells?_some hc
      match cs', hcl with
      | [c0, c1, c2, c3, c4, c5, c6], _ =>
        obtain ⟨x, ⟨rfl, rfl, rfl, rfl, rfl, rfl, rfl⟩, hxi⟩ := col_cells64 ht
        refine ⟨x, hxi, fun j u hu => ?_⟩
        have hj : j < 7 := by
          have := (List.getElem?_eq_some_iff.1 hu).1
          simpa [colC] using this
        rw [← Go.Deep.add_add, hat j hj]
        exact hu)
    refine ⟨l, some a, cap, by rw [hll], fun i x hx' => ?_, by rw [hll]; exact hl, fun x hx' => ?_⟩
    · have q := (hq i x hx').2
      have hil : i < l.length := (List.getElem?_eq_some_iff.1 hx').1
      have z0 : w.cell? a = some (.int .i64 (l[0]'(by omega)).id) := by
        have := (hq 0 (l[0]'(by omega)) (List.getElem?_eq_getElem _)).2 0 _ rfl
        simpa [Addr.add] using this
      obtain ⟨b, o, spot⟩ := a
      have hspot : spot = none := by
        have := World.cell?_spot z0
        simpa using this
      subst hspot
      have q' : ∀ j u, (colC x)[j]? = some u → w.cell? ⟨b, o + (i * 7 + j), none⟩ = some u := fun j u hu => by rw [← addr_add]; exact q j u hu
      refine ⟨b, o, rfl, ?_, ?_, ?_, ?_, ?_, ?_, ?_⟩
      · exact q' 0 _ rfl
      · exact q' 1 _ rfl
      · exact q' 2 _ rfl
      · exact q' 3 _ rfl
      · exact q' 4 _ rfl
      · exact q' 5 _ rfl
      · exact q' 6 _ rfl
    · obtain ⟨i, hi'⟩ := List.getElem?_of_mem hx'
      exact (hq i x hi').1
set_option maxRecDepth 100000 in
theorem vals_cells {cs : List Value} {x : DataW H × List MemPlace} (h : DataW.trod enc Tryz.prog w base spare held fuel 35 cs = some x) :
    ∃ (l : List GV) (A : Option Addr) (c : Nat), cs = [.slice A l.length c] ∧ RV w A l ∧ l.length ≤ c ∧ ∀ x ∈ l, i64 x.num := by
  rcases open_slice Tryz.underlying35 h with ⟨hcs, hx⟩ | ⟨a, len, cap, m, n, D, Pl, hcs, hb, hl, hm, hmm, hx, hi⟩
  · subst hcs
    exact ⟨[], none, 0, rfl, fun i x hi => by simp at hi, by simp, fun x h => by cases h⟩
  · subst hcs
    rw [Tryz.cellsVal] at hi
    have hlm : len ≤ m := by rw [hmm]; split <;> omega
    obtain ⟨l, hll, hq⟩ := list_of (Q := fun i (x : GV) => i64 x.num ∧ ∀ j u, [Value.int .i64 x.kind, .int .i64 x.num, .string x.text][j]? = some u → w.cell? (a.add (i * 3 + j)) = some u) len (fun i hil => by
      obtain ⟨cs', hc, ht⟩ := hi i (by omega)
      obtain ⟨x, rfl, hxi⟩ := val_cells ht
      obtain ⟨_, hcl, hat⟩ := World.cells?_some hc
      refine ⟨x, hxi, fun j u hu => ?_⟩
      have hj : j < 3 := by
        have := (List.getElem?_eq_some_iff.1 hu).1
        simpa using this
      rw [← Go.Deep.add_add, hat j hj, hu])
    refine ⟨l, some a, cap, by rw [hll], fun i x hx' => ?_, by rw [hll]; exact hl, fun x hx' => ?_⟩
    · have q := (hq i x hx').2
      have hil : i < l.length := (List.getElem?_eq_some_iff.1 hx').1
      have z0 : w.cell? a = some (.int .i64 (l[0]'(by omega)).kind) := by
        have := (hq 0 (l[0]'(by omega)) (List.getElem?_eq_getElem _)).2 0 _ rfl
        simpa [Addr.add] using this
      obtain ⟨b, o, spot⟩ := a
      have hspot : spot = none := by
        have := World.cell?_spot z0
        simpa using this
      subst hspot
      have q' : ∀ j u, [Value.int .i64 x.kind, .int .i64 x.num, .string x.text][j]? = some u → w.cell? ⟨b, o + (i * 3 + j), none⟩ = some u := fun j u hu => by rw [← addr_add]; exact q j u hu
      exact ⟨b, o, rfl, q' 0 _ rfl, q' 1 _ rfl, q' 2 _ rfl⟩
    · obtain ⟨i, hi'⟩ := List.getElem?_of_mem hx'
      exact (hq i x hi').1
set_option maxRecDepth 100000 in
theorem Tryz.bytesVals : Tryz.prog.bytesOf 35 = 24 := by kernel_rfl
set_option maxRecDepth 100000 in
theorem rows_cap {a0 : Option Addr} {len cap : Nat} {d : DataW H} {pl : List MemPlace} (h : DataW.trod enc Tryz.prog w base (fun _ => true) held fuel 23 [.slice a0 len cap] = some (d, pl)) (hz : ∀ n ∈ d.weights Tryz.prog 23, n ≤ reachBytes) : cap ≤ 140737488355328 := by
  rcases open_slice Tryz.underlying23 h with ⟨hcs, hx⟩ | ⟨a, len', cap', m, n, D, Pl, hcs, hb, hl, hm, hmm, hx, hi⟩
  · simp at hcs
    omega
  · simp at hcs
    obtain ⟨rfl, rfl, rfl⟩ := hcs
    simp only [Prod.mk.injEq] at hx
    have hd := hx.1
    subst hd
    have := hz ((len + (m - len)) * Tryz.prog.bytesOf 35) (by simp [DataW.weights, Tryz.underlying23])
    rw [Tryz.bytesVals] at this
    simp [reachBytes] at this
    simp at hmm
    omega
set_option maxRecDepth 100000 in
theorem rows_cells {cs : List Value} {x : DataW H × List MemPlace} (h : DataW.trod enc Tryz.prog w base spare held fuel 23 cs = some x) :
    ∃ (l : List (List GV)) (A : Option Addr) (c : Nat), cs = [.slice A l.length c] ∧ RR w A l ∧ l.length ≤ c ∧ ∀ r ∈ l, ∀ x ∈ r, i64 x.num := by
  rcases open_slice Tryz.underlying23 h with ⟨hcs, hx⟩ | ⟨a, len, cap, m, n, D, Pl, hcs, hb, hl, hm, hmm, hx, hi⟩
  · subst hcs
    exact ⟨[], none, 0, rfl, fun i x hi => by simp at hi, by simp, fun x h => by cases h⟩
  · subst hcs
    rw [Tryz.cellsVals] at hi
    have hlm : len ≤ m := by rw [hmm]; split <;> omega
    obtain ⟨l, hll, hq⟩ := list_of (Q := fun i (r : List GV) => (∀ x ∈ r, i64 x.num) ∧ ∃ A1 c1, w.cell? (a.add i) = some (.slice A1 r.length c1) ∧ RV w A1 r) len (fun i hil => by
      obtain ⟨cs', hc, ht⟩ := hi i (by omega)
      obtain ⟨r, A1, c1, rfl, hr, _, hxi⟩ := vals_cells ht
      obtain ⟨_, hcl, hat⟩ := World.cells?_some hc
      refine ⟨r, hxi, A1, c1, ?_, hr⟩
      have := hat 0 (by decide)
      rw [Go.Deep.add_add, Nat.mul_one, Nat.add_zero] at this
      exact this)
    refine ⟨l, some a, cap, by rw [hll], fun i r hx' => ?_, by rw [hll]; exact hl, fun x hx' => ?_⟩
    · obtain ⟨_, A1, c1, q, hr⟩ := hq i r hx'
      have hil : i < l.length := (List.getElem?_eq_some_iff.1 hx').1
      obtain ⟨_, A0, c0, z0, _⟩ := hq 0 (l[0]'(by omega)) (List.getElem?_eq_getElem _)
      have z0 : w.cell? a = some (.slice A0 (l[0]'(by omega)).length c0) := by simpa [Addr.add] using z0
      obtain ⟨b, o, spot⟩ := a
      have hspot : spot = none := by
        have := World.cell?_spot z0
        simpa using this
      subst hspot
      exact ⟨b, o, A1, c1, rfl, by rw [← addr_add]; exact q, hr⟩
    · obtain ⟨i, hi'⟩ := List.getElem?_of_mem hx'
      exact (hq i x hi').1
end
set_option maxRecDepth 100000 in
/-- columns that come in -/
theorem open_cols {H : Type} {enc : TypeId × Value → H} {w : World} {base b0 : Nat} {r : Reach} {v : Value} {d : DataW H} {p : List MemPlace}
    (hv : Value.okWide Tryz.prog w r b0 22 v) (h : DataW.Trod enc Tryz.prog w base (fun _ => true) true 22 v d p) :
    ∃ (l : List CG) (A : Option Addr) (c : Nat), v = .slice A l.length c ∧ RC w A l ∧ l.length ≤ c ∧ ∀ x ∈ l, i64 x.id := by
  obtain ⟨a0, len, cap, rfl⟩ := okWide_slice Tryz.underlying22 hv
  obtain ⟨fuel, hf⟩ := h
  obtain ⟨l, A, c, hcs, h1⟩ := cols_cells hf
  refine ⟨l, A, c, ?_, h1⟩
  simpa [Value.cells] using hcs
set_option maxRecDepth 100000 in
/-- rows that come in -/
theorem open_rows {H : Type} {enc : TypeId × Value → H} {w : World} {base b0 : Nat} {r : Reach} {v : Value} {d : DataW H} {p : List MemPlace}
    (hv : Value.okWide Tryz.prog w r b0 23 v) (h : DataW.Trod enc Tryz.prog w base (fun _ => true) true 23 v d p) (hz : ∀ n ∈ d.weights Tryz.prog 23, n ≤ reachBytes) :
    ∃ (l : List (List GV)) (A : Option Addr) (c : Nat), v = .slice A l.length c ∧ RR w A l ∧ l.length ≤ c ∧ c ≤ 140737488355328 ∧ ∀ r ∈ l, ∀ x ∈ r, i64 x.num := by
  obtain ⟨a0, len, cap, rfl⟩ := okWide_slice Tryz.underlying23 hv
  obtain ⟨fuel, hf⟩ := h
  obtain ⟨l, A, c, hcs, h1, h2, h3⟩ := rows_cells hf
  have hcs : Value.slice a0 len cap = .slice A l.length c := by simpa [Value.cells] using hcs
  have hc : cap ≤ 140737488355328 := rows_cap (by simpa [Value.cells] using hf) hz
  obtain rfl : cap = c := by simp at hcs; exact hcs.2.2
  exact ⟨l, A, cap, hcs, h1, h2, hc, h3⟩
end Go.Proofs.YtlaldfkeaalnhaaGreatDoor

/- schema.Find. -/
namespace Go.Proofs.YtlaldfkeaalnhaaGreatDoor
set_option linter.all false
set_option linter.unusedSimpArgs false
set_option linter.unusedVariables false
open Go.RowKit
set_option maxRecDepth 100000 in
set_option maxHeartbeats 8000000 in
theorem find1_any (nm : ByteArray) (c : CG) (bk : Nat) (w : World) (h : w.cell? ⟨bk, 0, none⟩ = some (.string nm)) :
    Calls Tryz.prog 109 #[.agg #[.int .i64 c.id, .string c.name, .int .i64 c.kind, .bool c.must, .int .i64 c.d.kind, .int .i64 c.d.num, .string c.d.text], .pointer (some ⟨bk, 0, none⟩)] w fun e w' => e = .returned (.bool (nmEq nm c)) ∧ Ext w w' := by
  have hS := Hp.init w
  have hR := Reads.cell h (Reads.nil w)
  clear h
  unfold nmEq
  ((try clear hF); refine hfI ?_; intro hF)
  go_enter Tryz.func109, Tryz.ntmps109
  go_wp2_with (first | (refine hab ?_; (try clear hF); clear hS; intro wk hS; (try simp only [List.set_cons_zero, List.set_cons_succ, heap_size, heap_set_size] at hS); ((try clear hF); refine hfI ?_; intro hF)) | fail)
  go_ret
  exact ⟨rfl, hS.ext⟩
theorem eg_find1 : ∀ args w, (callFunc 109 args).run Tryz.prog w = .ok (.enter 109 args) w := fun _ _ => by kernel_rfl
set_option maxRecDepth 100000 in
set_option maxHeartbeats 8000000 in
theorem find_any (l : List CG) (A : Option Addr) (cap : Nat) (nm : ByteArray) (w : World) (hr : RC w A l) (hl : l.length ≤ 140737488355328) :
    Calls Tryz.prog 75 #[.slice A l.length cap, .string nm] w fun e w' => e = .returned (.int .i64 (idxC (nmEq nm) 0 l)) ∧ Ext w w' := by
  have HI := Lib.hid (fun (W : World) bk (hx : Ext w W) (h : W.cell? ⟨bk, 0, none⟩ = some (.string nm)) => cindexFunc_any l A cap 109 #[.pointer (some ⟨bk, 0, none⟩)] (nmEq nm) W (hr.ext hx) hl eg_find1 (fun W' hx' c => find1_any nm c bk W' (hx'.keeps h)))
  clear hr
  have hS := Hp.init w
  have hR := Reads.nil w
  go_enter Tryz.func75, Tryz.ntmps75
  go_wp2_with (first | (refine hab ?_; (try clear hF); clear hS; intro wk hS; (try simp only [List.set_cons_zero, List.set_cons_succ, heap_size, heap_set_size] at hS); ((try clear hF); refine hfI ?_; intro hF)) | (go_at_call 61; (with_reducible refine (HI.out _ _ hS.ext hF.1).mono ?_); rintro e wk ⟨rfl, hX⟩; replace hS := hS.step hX; clear hX; ((try clear hF); refine hfI ?_; intro hF)))
  go_ret
  exact ⟨rfl, hS.ext⟩
end Go.Proofs.YtlaldfkeaalnhaaGreatDoor

/- query: what comes of rows: plain. -/
namespace Go.Proofs.YtlaldfkeaalnhaaGreatDoor
set_option linter.unusedSimpArgs false
set_option linter.unusedVariables false
open Go.RowKit
set_option linter.all false
theorem str_ne {s : ByteArray} {l : List UInt8} (h : s ≠ ⟨l.toArray⟩) : (s.toList == l) = false := by
  rw [ByteArray.toList_eq]
  cases hx : (s.data.toList == l) with
  | false => rfl
  | true =>
    have h1 : s.data.toList = l := by simpa using hx
    refine absurd (ByteArray.ext (Array.toList_inj.1 ?_)) h
    rw [h1]
theorem idxQ_some (p : CG → Bool) : ∀ (l : List CG) (j : Nat), 0 ≤ idxC p j l → ∃ (k : Nat) (c : CG), idxC p j l = ((j + k : Nat) : Int) ∧ l[k]? = some c ∧ p c = true
  | [], j, h => by simp [idxC] at h
  | c :: l, j, h => by
    rw [idxC] at h ⊢
    by_cases hc : p c = true
    · rw [if_pos hc]
      exact ⟨0, c, by simp, rfl, hc⟩
    · rw [if_neg hc] at h ⊢
      obtain ⟨k, d, h1, h2, h3⟩ := idxQ_some p l (j + 1) h
      exact ⟨k + 1, d, by rw [h1]; push_cast; omega, by simpa using h2, h3⟩
/-- where an item's column stands (below 0: it is *), or which error -/
def placeE (cs : List CG) (x : IT) : Int × Int :=
  if x.col = starS then (-1, 0) else
  if idxC (nmEq x.col) 0 cs < 0 then (0, 5) else
  match cs[(idxC (nmEq x.col) 0 cs).toNat]? with
  | some c => if x.fn = sumS ∧ c.kind ≠ 1 then (0, 1) else (idxC (nmEq x.col) 0 cs, 0)
  | none => (0, 5)
def atR (r : List GV) (k : Int) : GV := r.getD k.toNat zeroV
def keyR (ks : List Int) (r : List GV) : List GV := ks.map (atR r)
def sumStep (a v : GV) : GV := if v.kind = 1 then ⟨1, wrap64 (a.num + v.num), a.text⟩ else a
def sumG (l : List GV) : GV := l.foldl sumStep zeroV
/-- what an item is, of rows that are together -/
def ofQ (x : IT) (k : Int) (rs : List (List GV)) : GV :=
  if k < 0 then ⟨1, rs.length, noS⟩
  else if x.fn = countS then ⟨1, (ofS (rs.map fun r => atR r k)).count - (ofS (rs.map fun r => atR r k)).nulls, noS⟩
  else if x.fn = minS then (ofS (rs.map fun r => atR r k)).mn
  else if x.fn = maxS then (ofS (rs.map fun r => atR r k)).mx
  else if x.fn = sumS then sumG (rs.map fun r => atR r k)
  else (rs.map fun r => atR r k).headD zeroV
/-- where columns stand by which rows are together -/
def byE (cs : List CG) : List ByteArray → Option (List Int)
  | [] => some []
  | n :: l => if idxC (nmEq n) 0 cs < 0 then none else (byE cs l).map (idxC (nmEq n) 0 cs :: ·)
def itemsE (cs : List CG) (some_ : Bool) (bs : List Int) : List IT → Int × List Int
  | [] => (0, [])
  | x :: l => if (placeE cs x).2 ≠ 0 then ((placeE cs x).2, [])
    else if some_ = true ∧ x.fn = noS ∧ (placeE cs x).1 ∉ bs then (6, [])
    else if (itemsE cs some_ bs l).1 ≠ 0 then ((itemsE cs some_ bs l).1, []) else (0, (placeE cs x).1 :: (itemsE cs some_ bs l).2)
def someE (q : QG) : Bool := decide (0 < q.by_.length) || q.items.any fun x => decide (x.fn ≠ noS)
end Go.Proofs.YtlaldfkeaalnhaaGreatDoor

/- The questions that the laws ask, as text, are read as what they ask: plain. -/
namespace Go.Proofs.YtlaldfkeaalnhaaGreatDoor
set_option linter.unusedSimpArgs false
set_option linter.unusedVariables false
open Go.RowKit
set_option linter.all false
/-- items that may be written -/
def OkI (x : IT) : Prop := (x.fn = noS ∧ nameT ⟨1, x.col⟩ = true) ∨ (x.fn ∈ fns4 ∧ (nameT ⟨1, x.col⟩ = true ∨ (x.col = starS ∧ x.fn = countS)))
/-- an item as text, as tokens -/
def itL (x : IT) : List UInt8 := if x.fn = noS then x.col.data.toList else x.fn.data.toList ++ [40] ++ x.col.data.toList ++ [41]
def colT (c : ByteArray) : Tk := if c = starS then mkT 4 [42] else mkT 1 c.data.toList
def itT (x : IT) : List Tk := if x.fn = noS then [mkT 1 x.col.data.toList] else [mkT 1 x.fn.data.toList, mkT 4 [40], colT x.col, mkT 4 [41]]
def restL (l : List IT) : List UInt8 := l.flatMap fun x => [44, 32] ++ itL x
def restT (l : List IT) : List Tk := l.flatMap fun x => mkT 4 [44] :: itT x
def itsL : List IT → List UInt8
  | [] => []
  | x :: l => itL x ++ restL l
def itsT : List IT → List Tk
  | [] => []
  | x :: l => itT x ++ restT l
theorem lx_mark {m : UInt8} (hm : m = 44 ∨ m = 42) {rest : List UInt8} {ts : List Tk} (h : Lx rest ts) : Lx ([m] ++ rest) (mkT 4 [m] :: ts) := by
  rcases hm with rfl | rfl
  all_goals
    refine lx_of (by simp) (by simp) ?_ h
    simp [nextL, smallB, digitB, markIn, marksL, Lib.hasPrefix]
def sepW (l : List UInt8) : Prop := wordB (l.headD 0) = false
theorem star_not : nameT ⟨1, starS⟩ = false := by decide +kernel
theorem fns_word {fn : ByteArray} (h : fn ∈ fns4) : (∃ c r, fn.data.toList = c :: r ∧ smallB c = true) ∧ (∀ c ∈ fn.data.toList, wordB c = true) ∧ nameT ⟨1, fn⟩ = true ∧ fn ≠ noS ∧ Lib.containsS fns4 fn = true := by
  have h2 : Lib.containsS fns4 fn = true := (Lib.containsS_iff fns4 fn).2 h
  have hn : nameT ⟨1, fn⟩ = true := by
    simp only [fns4, List.mem_cons, List.not_mem_nil, or_false] at h
    rcases h with rfl | rfl | rfl | rfl <;> decide +kernel
  refine ⟨(name_word hn).1, (name_word hn).2, hn, fun e => ?_, h2⟩
  obtain ⟨c, r, e2, _⟩ := (name_word hn).1
  rw [e] at e2
  cases e2
theorem name_star {c : ByteArray} (h : nameT ⟨1, c⟩ = true) : c ≠ starS := fun e => by rw [e, star_not] at h; cases h
theorem lx_item {x : IT} (hx : OkI x) {rest : List UInt8} {ts : List Tk} (hs : sepW rest) (h : Lx rest ts) : Lx (itL x ++ rest) (itT x ++ ts) := by
  unfold itL itT
  rcases hx with ⟨h1, h2⟩ | ⟨h1, h2⟩
  · rw [if_pos h1, if_pos h1]
    exact lx_word (name_word h2).1 (name_word h2).2 hs h
  · obtain ⟨a1, a2, a3, a4, a5⟩ := fns_word h1
    rw [if_neg a4, if_neg a4]
    simp only [List.append_assoc, List.cons_append, List.nil_append]
    refine lx_word a1 a2 rfl ?_
    refine lx_open (rest := x.col.data.toList ++ 41 :: rest) ?_
    have hc : Lx (41 :: rest) (mkT 4 [41] :: ts) := lx_close h
    unfold colT
    rcases h2 with h2 | ⟨h2, _⟩
    · rw [if_neg (name_star h2)]
      exact lx_word (name_word h2).1 (name_word h2).2 rfl hc
    · rw [if_pos h2, h2]
      exact lx_mark (.inr rfl) hc
theorem lx_rest : ∀ (l : List IT), (∀ x ∈ l, OkI x) → ∀ {rest : List UInt8} {ts : List Tk}, sepW rest → Lx rest ts → Lx (restL l ++ rest) (restT l ++ ts) ∧ sepW (restL l ++ rest)
  | [], _, rest, ts, hs, h => ⟨h, hs⟩
  | x :: l, hl, rest, ts, hs, h => by
    obtain ⟨i1, i2⟩ := lx_rest l (fun x hx => hl x (by simp [hx])) hs h
    have e1 : restL (x :: l) ++ rest = [44] ++ ([32] ++ (itL x ++ (restL l ++ rest))) := by simp [restL]
    have e2 : restT (x :: l) ++ ts = mkT 4 [44] :: (itT x ++ (restT l ++ ts)) := by simp [restT]
    rw [e1, e2]
    exact ⟨lx_mark (.inl rfl) (Lx.sp (lx_item (hl x (by simp)) i2 i1)), rfl⟩
theorem lx_items {l : List IT} (hl : ∀ x ∈ l, OkI x) {rest : List UInt8} {ts : List Tk} (h0 : l ≠ []) (hs : sepW rest) (h : Lx rest ts) : Lx (itsL l ++ rest) (itsT l ++ ts) := by
  cases l with
  | nil => exact absurd rfl h0
  | cons x l =>
    obtain ⟨i1, i2⟩ := lx_rest l (fun x hx => hl x (by simp [hx])) hs h
    have e1 : itsL (x :: l) ++ rest = itL x ++ (restL l ++ rest) := by simp [itsL]
    have e2 : itsT (x :: l) ++ ts = itT x ++ (restT l ++ ts) := by simp [itsT]
    rw [e1, e2]
    exact lx_item (hl x (by simp)) i2 i1
/-! reading -/
theorem see_at {k : Int} {w : List UInt8} {l : List Tk} {s : List UInt8} (hk : k = 1 ∨ k = 4) : seeT (mkT k w :: l) s = (w == s) := by
  rw [see_mk]
  rcases hk with rfl | rfl <;> simp
theorem see_col {c : ByteArray} (h : nameT ⟨1, c⟩ = true) (l : List Tk) (m : UInt8) (hm : smallB m = false) : seeT (mkT 1 c.data.toList :: l) [m] = false := by
  rw [see_at (.inl rfl)]
  obtain ⟨⟨d, r, h1, h2⟩, _⟩ := name_word h
  rw [beq_eq_false_iff_ne, h1]
  intro e
  have : d = m := (List.cons.inj e).1
  subst this
  rw [hm] at h2; cases h2
theorem nameP_mk {c : ByteArray} (h : nameT ⟨1, c⟩ = true) (r : List Tk) : nameP (mkT 1 c.data.toList :: r) = some (c, r) := by
  rw [tkeq]
  simp only [nameP]
  rw [if_pos h]
theorem item_back {x : IT} (hx : OkI x) {r : List Tk} (hr : seeT r [40] = false) : itemP (itT x ++ r) = some (x, r) := by
  obtain ⟨fn, col⟩ := x
  unfold itT
  simp only [OkI] at hx ⊢
  rcases hx with ⟨rfl, h2⟩ | ⟨h1, h2⟩
  · rw [if_pos rfl]
    simp only [List.cons_append, List.nil_append, itemP, nameP_mk h2, hr, Bool.and_false, Bool.false_eq_true, if_false]
  · obtain ⟨a1, a2, a3, a4, a5⟩ := fns_word h1
    rw [if_neg a4]
    simp only [List.cons_append, List.nil_append, itemP, nameP_mk a3, a5, Bool.true_and]
    rw [if_pos (by rw [see_at (.inr rfl)]; rfl), List.tail_cons]
    have hcl : ∀ (y : IT), closeP y (mkT 4 [41] :: r) = some (y, r) := fun y => by
      unfold closeP
      rw [if_pos (by rw [see_at (.inr rfl)]; rfl), List.tail_cons]
    unfold fnP colT
    rcases h2 with h2 | ⟨rfl, rfl⟩
    · rw [if_neg (name_star h2), see_col h2 _ 42 (by decide), Bool.and_false, if_neg (by simp), nameP_mk h2]
      exact hcl _
    · rw [if_pos rfl, see_at (.inr rfl), if_pos (by decide), List.tail_cons]
      exact hcl _
theorem items_back : ∀ (l : List IT), (∀ x ∈ l, OkI x) → ∀ (R : List Tk) (acc : List IT) (f : Nat), seeT R [44] = false → seeT R [40] = false → (restT l ++ R).length < f → listQ itemP f acc (restT l ++ R) = some (acc ++ l, R)
  | [], _, R, acc, 0, _, _, hf => by omega
  | [], _, R, acc, f + 1, h1, h2, hf => by
    show listQ itemP (f + 1) acc R = _
    rw [listQ, h1, if_neg (by simp), List.append_nil]
  | x :: l, hl, R, acc, 0, _, _, hf => by omega
  | x :: l, hl, R, acc, f + 1, h1, h2, hf => by
    have e2 : restT (x :: l) ++ R = mkT 4 [44] :: (itT x ++ (restT l ++ R)) := by simp [restT]
    rw [e2] at hf ⊢
    have h3 : seeT (restT l ++ R) [40] = false := by
      cases l with
      | nil => exact h2
      | cons y l => rw [show restT (y :: l) ++ R = mkT 4 [44] :: (itT y ++ (restT l ++ R)) by simp [restT], see_at (.inr rfl)]; rfl
    rw [listQ, see_at (.inr rfl), if_pos (by decide), List.tail_cons, item_back (hl x (by simp)) h3]
    simp only
    rw [items_back l (fun x hx => hl x (by simp [hx])) R (acc ++ [x]) f h1 h2 (by simp only [List.length_cons, List.length_append] at hf ⊢; omega)]
    simp
theorem list_back {l : List IT} (hl : ∀ x ∈ l, OkI x) (h0 : l ≠ []) {R : List Tk} (h1 : seeT R [44] = false) (h2 : seeT R [40] = false) : listP itemP (itsT l ++ R) = some (l, R) := by
  cases l with
  | nil => exact absurd rfl h0
  | cons x l =>
    have h3 : seeT (restT l ++ R) [40] = false := by
      cases l with
      | nil => exact h2
      | cons y l => rw [show restT (y :: l) ++ R = mkT 4 [44] :: (itT y ++ (restT l ++ R)) by simp [restT], see_at (.inr rfl)]; rfl
    rw [show itsT (x :: l) ++ R = itT x ++ (restT l ++ R) by simp [itsT]]
    unfold listP
    rw [item_back (hl x (by simp)) h3]
    simp only
    rw [items_back l (fun x hx => hl x (by simp [hx])) R [x] _ h1 h2 (Nat.lt_succ_self _)]
    rfl
/-- tokens of a question: items, and what stands behind them -/
theorem parse_of {l : List IT} (hl : ∀ x ∈ l, OkI x) (h0 : l ≠ []) {tail : List UInt8} {R : List Tk} {q : QG} (hs : sepW tail) (hR : Lx tail R) (hlen : (itsT l ++ R).length ≤ 79) (h1 : seeT (R ++ [endTk]) [44] = false) (h2 : seeT (R ++ [endTk]) [40] = false) (hq : q1P ⟨l, .nil, [], [], 0⟩ (R ++ [endTk]) = some (q, [endTk])) :
    parseQ (selL ++ [32] ++ itsL l ++ tail) = some q := by
  have hx : Lx (selL ++ [32] ++ itsL l ++ tail) (mkT 1 selL :: (itsT l ++ R)) := by
    simp only [List.append_assoc]
    exact lx_kw ⟨_, _, rfl, rfl⟩ (by decide) (sep_sp _) (Lx.sp (lx_items hl h0 hs hR))
  unfold parseQ
  rw [tokL_of hx _ 0 (Nat.lt_succ_self _) (by simp only [List.length_cons]; omega)]
  simp only
  have e : (mkT 1 selL :: (itsT l ++ R)) ++ [endTk] = mkT 1 selL :: (itsT l ++ (R ++ [endTk])) := by simp
  rw [e]
  unfold queryP
  rw [see_at (.inl rfl), if_pos (by decide), List.tail_cons, list_back hl h0 h1 h2]
  simp only
  rw [hq]
  rfl
theorem see_endQ (s : List UInt8) : seeT [endTk] s = false := by simp [seeT, endTk]
theorem q1_end (q : QG) : q1P q [endTk] = some (q, [endTk]) := by
  unfold q1P q2P q3P q4P
  simp only [see_endQ, Bool.false_eq_true, if_false]
theorem size_back {n most : Int} (h1 : 1 ≤ n) (h2 : n ≤ most) (h3 : n ≤ 1000) (r : List Tk) : sizeP most (mkT 2 (itoaL n) :: r) = some (n, r) := by
  unfold sizeP mkT
  simp only [if_true]
  rw [num_back (by unfold i64; omega)]
  simp only
  rw [if_neg (by omega)]
theorem q1_ord (q : QG) {k : Int} {R : List Tk} {dsc : Bool} {q2 : QG} (h0 : 0 ≤ k) (h1 : k < q.items.length) (h2 : k < 100) (hd : seeT R descL = dsc) (h44 : seeT (if dsc then R.tail else R) [44] = false) (hq : q4P { q with ord := [(k, dsc)] } (if dsc then R.tail else R) = some (q2, [endTk])) :
    q1P q (mkT 1 ordL :: mkT 2 (itoaL (k + 1)) :: R) = some (q2, [endTk]) := by
  have e1 : orderP q.items.length (mkT 2 (itoaL (k + 1)) :: R) = some ((k, dsc), if dsc then R.tail else R) := by
    unfold orderP
    rw [size_back (by omega) (by omega) (by omega)]
    simp only [hd]
    rw [show k + 1 - 1 = k by omega]
  have e2 : listP (orderP q.items.length) (mkT 2 (itoaL (k + 1)) :: R) = some ([(k, dsc)], if dsc then R.tail else R) := by
    unfold listP
    rw [e1]
    simp only
    rw [listQ, h44, if_neg (by simp)]
  unfold q1P
  rw [see_at (.inl rfl), show (ordL == whrL) = false from rfl, if_neg (by simp)]
  unfold q2P
  rw [see_at (.inl rfl), show (ordL == byL) = false from rfl, if_neg (by simp)]
  unfold q3P
  rw [see_at (.inl rfl), show (ordL == ordL) = true from rfl, if_pos rfl, List.tail_cons, e2]
  simp only
  exact hq
theorem q4_end (q : QG) : q4P q [endTk] = some (q, [endTk]) := by
  unfold q4P
  simp only [see_endQ, Bool.false_eq_true, if_false]
theorem q4_lim (q : QG) {n : Int} (h1 : 1 ≤ n) (h2 : n ≤ 1000) : q4P q (mkT 1 limL :: mkT 2 (itoaL n) :: [endTk]) = some ({ q with limit := n }, [endTk]) := by
  unfold q4P
  rw [see_at (.inl rfl), show (limL == limL) = true from rfl, if_pos rfl, List.tail_cons, size_back h1 (by omega) h2]
end Go.Proofs.YtlaldfkeaalnhaaGreatDoor

/- slices.SortStableFunc at rows: swapRange. -/
namespace Go.Proofs.YtlaldfkeaalnhaaGreatDoor
set_option linter.unusedSimpArgs false
set_option linter.unusedVariables false
open Go.RowKit
set_option linter.all false
/-- the row of rows -/
abbrev rowsI (g n cap : Nat) (xs : List Mx) : Item := .row 35 1 (some ⟨g, 0, none⟩) n cap (xs.map hdV)
theorem swp_hd (xs : List Mx) {i j : Nat} {x y : Mx} (hx : xs[i]? = some x) (hy : xs[j]? = some y) : ((xs.map hdV).set i (hdV y)).set j (hdV x) = (swpL mx0 xs i j).map hdV := by
  unfold swpL
  rw [List.getD_eq_getElem?_getD, List.getD_eq_getElem?_getD, hx, hy, List.map_set, List.map_set]
  rfl
section
variable {B : Nat} {w0 W : World} {L : List Item} {g n cap : Nat} {xs : List Mx}
theorem rows_cell (h : Hp B w0 W (rowsI g n cap xs :: L)) {i : Nat} {x : Mx} (hx : xs[i]? = some x) (hi : i < n) (hc : n ≤ cap) : W.cell? ⟨g, i, none⟩ = some (hdV x) ∧ W.frozen? ⟨g, i, none⟩ = false := by
  obtain ⟨g1, e, c1, c2⟩ := h.rowCell 0 rfl (j := i) (u := hdV x) (by rw [List.getElem?_map, hx]; rfl)
  obtain rfl : g = g1 := by simpa using e
  exact ⟨c1, c2⟩
end
set_option maxRecDepth 100000 in
set_option maxHeartbeats 8000000 in
theorem swapRange_any {B : Nat} {w0 w : World} {L : List Item} {g n cap : Nat} (xs : List Mx) (a b m : Nat) (fv : Value) (hn : xs.length = n) (hn2 : n ≤ 1000) (hc : n ≤ cap) (ha : a + m ≤ b) (hb : b + m ≤ n) (hS : Hp B w0 w (rowsI g n cap xs :: L)) :
    Calls Tryz.prog 165 #[.slice (some ⟨g, 0, none⟩) n cap, .int .i64 a, .int .i64 b, .int .i64 m, fv] w fun e w' => e = .returned (.tuple #[]) ∧ Hp B w0 w' (rowsI g n cap (swR mx0 xs a b m) :: L) := by
  have Hn := Lib.hid hn
  clear hn
  have hF : True := trivial
  have hR := Reads.nil w
  go_enter Tryz.func165, Tryz.ntmps165
  go_wp2
  go_loopw [10] (fun i wr => ∃ k : Nat, i = .int .i64 k ∧ k ≤ m ∧ Hp B w0 wr (rowsI g n cap (swR mx0 xs a b k) :: L)) (fun i _ => m - (intOf i).toNat)
  case atStart => exact ⟨0, rfl, Nat.zero_le _, hS⟩
  case round =>
    clear hS
    obtain ⟨k, rfl, hk, hS⟩ := hrel
    by_cases hlt : k < m
    · have hlen : (swR mx0 xs a b k).length = n := by rw [swR_len, Hn.out]
      obtain ⟨x, hx⟩ : ∃ x, (swR mx0 xs a b k)[a + k]? = some x := ⟨_, List.getElem?_eq_getElem (by omega)⟩
      obtain ⟨y, hy⟩ : ∃ y, (swR mx0 xs a b k)[b + k]? = some y := ⟨_, List.getElem?_eq_getElem (by omega)⟩
      obtain ⟨c1, f1⟩ := rows_cell hS hx (by omega) hc
      obtain ⟨c2, f2⟩ := rows_cell hS hy (by omega) hc
      have HT := Lib.hid (swp_hd _ hx hy)
      have hak : a + k < n := by omega
      have hne : a + k ≠ b + k := by omega
      have hne' : b + k ≠ a + k := by omega
      have hbk : b + k < n := by omega
      have hw1 : IntKind.i64.wrap ((a : Int) + (k : Int)) = ((a + k : Nat) : Int) := by rw [IntWalk.i64_in _ (by omega)]; push_cast; rfl
      have hw2 : IntKind.i64.wrap ((b : Int) + (k : Int)) = ((b + k : Nat) : Int) := by rw [IntWalk.i64_in _ (by omega)]; push_cast; rfl
      have HS2 := Lib.hid (show Hp B w0 ((wr.drew.setCell ⟨g, a + k, none⟩ (hdV y)).setCell ⟨g, b + k, none⟩ (hdV x)) (rowsI g n cap (swR mx0 xs a b (k + 1)) :: L) from by
        have h := (hS.drew.putRow (a + k) (hdV y)).putRow (b + k) (hdV x)
        rw [HT.out] at h
        exact h)
      clear hx hy hS HT
      go_wp2
      go_region
      go_wp2
      go_roundw
      case rel => exact ⟨k + 1, by go_num, by omega, HS2.out⟩
      case measure => simp [intOf]; omega
    · obtain rfl : m = k := by omega
      go_wp2
      go_end0
      exact ⟨rfl, hS⟩
end Go.Proofs.YtlaldfkeaalnhaaGreatDoor

/- api.Tell. -/
namespace Go.Proofs.YtlaldfkeaalnhaaGreatDoor
set_option linter.all false
set_option linter.unusedSimpArgs false
set_option linter.unusedVariables false
open Go.RowKit
/-- the type of errors, in the library's variable -/
def ErrAt (w : World) : Prop := w.cell? ⟨4, 0, none⟩ = some (.iface 218 (.agg #[.pointer (some ⟨13, 51, none⟩)]))
theorem ErrAt.ext {w w' : World} (h : ErrAt w) (hx : Ext w w') : ErrAt w' := hx.keeps h
theorem as_hp {B : Nat} {w0 w : World} {L : List Item} (e : Int) (g : Nat) (he : ErrAt w) (hS : Hp B w0 w (.blk g [.int .i64 0] 101 :: L)) :
    Calls Tryz.prog 86 #[.iface 101 (.int .i64 e), .iface 149 (.pointer (some ⟨g, 0, none⟩))] w fun ev w' => ev = .returned (.bool true) ∧ Hp B w0 w' (.blk g [.int .i64 e] 101 :: L) := by
  have hF := hS.facts
  simp only [HFacts, cellFacts, RFacts, cellOnly, and_true, true_and, Nat.zero_add, Nat.reduceAdd] at hF
  refine (as_hit e ⟨g, 0, none⟩ _ w he hF.1.1 hF.1.2).mono fun ev w' ⟨h1, h2⟩ => ⟨h1, ?_⟩
  rw [h2]
  exact ((((hS.old _).old _).old _).old _).put0 0 (.int .i64 e)
set_option maxRecDepth 100000 in
set_option maxHeartbeats 8000000 in
theorem tell_any (e : Int) (w : World) (he : ErrAt w) :
    Calls Tryz.prog 56 #[.iface 101 (.int .i64 e)] w fun ev w' => ev = .returned (.int .i64 e) ∧ Ext w w' := by
  have hS := Hp.init w
  have hR := Reads.nil w
  have HA := Lib.hid (fun (W : World) hx (L : List Item) g hS => as_hp (w0 := w) (w := W) (B := w.heap.size) (L := L) e g (he.ext (w' := W) hx) hS)
  go_enter Tryz.func56, Tryz.ntmps56
  go_wp2_with (first | (refine hab ?_; (try clear hF); clear hS; intro wk hS; (try simp only [List.set_cons_zero, List.set_cons_succ, heap_size, heap_set_size] at hS); ((try clear hF); refine hfI ?_; intro hF)) | (go_at_call 86; (with_reducible refine Calls.mono (HA.out _ hS.ext _ _ hS) ?_); clear hS; rintro ev wk ⟨rfl, hS⟩; ((try clear hF); refine hfI ?_; intro hF)))
  go_ret
  exact ⟨rfl, hS.ext⟩
end Go.Proofs.YtlaldfkeaalnhaaGreatDoor
