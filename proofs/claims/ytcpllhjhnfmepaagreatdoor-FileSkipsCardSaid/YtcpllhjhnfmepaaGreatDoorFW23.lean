/- Arguments that are columns, and rows of values: what their cells hold. -/
import Derived.Test.YtcpllhjhnfmepaaGreatDoorFW02
import Derived.Test.YtcpllhjhnfmepaaGreatDoorFW10
import Derived.Test.YtcpllhjhnfmepaaGreatDoorFW22
namespace Go.Proofs.YtcpllhjhnfmepaaGreatDoor
set_option linter.unusedSimpArgs false
set_option linter.unusedVariables false
open Go.RowKit
set_option linter.all false
open Go.ChangeShapes Go.WideShapes Go.ChangeAt Go.Joins Go.Deep
theorem Tryz.cellsVals : Tryz.prog.cellsOf 57 = 1 := by kernel_rfl
section
variable {H : Type} {enc : TypeId × Value → H} {w : World} {base fuel : Nat} {spare : Nat → Bool} {held : Bool}
set_option maxRecDepth 100000 in
theorem col_cells64 {c0 c1 c2 c3 c4 c5 c6 : Value} {x : DataW H × List MemPlace} (h : DataW.trod enc Tryz.prog w base spare held fuel 47 [c0, c1, c2, c3, c4, c5, c6] = some x) : ∃ p : CG, (c0 = .int .i64 p.id ∧ c1 = .string p.name ∧ c2 = .int .i64 p.kind ∧ c3 = .bool p.must ∧ c4 = .int .i64 p.d.kind ∧ c5 = .int .i64 p.d.num ∧ c6 = .string p.d.text) ∧ i64 p.id := by
  obtain ⟨p, h0, h1⟩ := col_cells h
  refine ⟨p, ⟨h0, h1⟩, ?_⟩
  obtain ⟨y0, y1, y2, y3, y4, n, hl, h0', _⟩ := trod_struct5 Tryz.underlying47 h
  simp only [Tryz.cellsInt, List.drop_zero, List.take_succ_cons, List.take_zero] at h0'
  obtain ⟨id, e0, _, w0⟩ := DataW.trod_int Tryz.underlying3 h0'
  simp only [List.cons.injEq, and_true] at e0
  rw [h0] at e0
  obtain rfl : p.id = id := by simpa using e0
  exact i64_wf w0
/-- the cells of columns -/
def colC (c : CG) : List Value := [.int .i64 c.id, .string c.name, .int .i64 c.kind, .bool c.must, .int .i64 c.d.kind, .int .i64 c.d.num, .string c.d.text]
set_option maxRecDepth 100000 in
theorem cols_cells {cs : List Value} {x : DataW H × List MemPlace} (h : DataW.trod enc Tryz.prog w base spare held fuel 22 cs = some x) :
    ∃ (l : List CG) (A : Option Addr) (c : Nat), cs = [.slice A l.length c] ∧ RC w A l ∧ l.length ≤ c ∧ ∀ x ∈ l, i64 x.id := by
  rcases open_slice Tryz.underlying22 h with ⟨hcs, hx⟩ | ⟨a, len, cap, m, n, D, Pl, hcs, hb, hl, hm, hmm, hx, hi⟩
  · subst hcs
    exact ⟨[], none, 0, rfl, fun i x hi => by simp at hi, by simp, fun x h => by cases h⟩
  · subst hcs
    rw [Tryz.cellsCol] at hi
    have hlm : len ≤ m := by rw [hmm]; split <;> omega
    obtain ⟨l, hll, hq⟩ := list_of (Q := fun i (x : CG) => i64 x.id ∧ ∀ j u, (colC x)[j]? = some u → w.cell? (a.add (i * 7 + j)) = some u) len (fun i hil => by
      obtain ⟨cs', hc, ht⟩ := hi i (by omega)
      obtain ⟨_, hcl, hat⟩ := World.cells?_some hc
      match cs', hcl with
      | [c0, c1, c2, c3, c4, c5, c6], _ =>
        obtain ⟨x, ⟨rfl, rfl, rfl, rfl, rfl, rfl, rfl⟩, hxi⟩ := col_cells64 ht
        refine ⟨x, hxi, fun j u hu => ?_⟩
        have hj : j < 7 := by
          have := (List.getElem?_eq_some_iff.1 hu).1
          simpa [colC] using this
        rw [← Go.Deep.add_add, hat j hj]
        exact hu)
    refine ⟨l, some a, cap, by rw [hll], fun i x hx' => ?_, by rw [hll]; exact hl, fun x hx' => ?_⟩
    · have q := (hq i x hx').2
      have hil : i < l.length := (List.getElem?_eq_some_iff.1 hx').1
      have z0 : w.cell? a = some (.int .i64 (l[0]'(by omega)).id) := by
        have := (hq 0 (l[0]'(by omega)) (List.getElem?_eq_getElem _)).2 0 _ rfl
        simpa [Addr.add] using this
      obtain ⟨b, o, spot⟩ := a
      have hspot : spot = none := by
        have := World.cell?_spot z0
        simpa using this
      subst hspot
      have q' : ∀ j u, (colC x)[j]? = some u → w.cell? ⟨b, o + (i * 7 + j), none⟩ = some u := fun j u hu => by rw [← addr_add]; exact q j u hu
      refine ⟨b, o, rfl, ?_, ?_, ?_, ?_, ?_, ?_, ?_⟩
      · exact q' 0 _ rfl
      · exact q' 1 _ rfl
      · exact q' 2 _ rfl
      · exact q' 3 _ rfl
      · exact q' 4 _ rfl
      · exact q' 5 _ rfl
      · exact q' 6 _ rfl
    · obtain ⟨i, hi'⟩ := List.getElem?_of_mem hx'
      exact (hq i x hi').1
set_option maxRecDepth 100000 in
theorem vals_cells {cs : List Value} {x : DataW H × List MemPlace} (h : DataW.trod enc Tryz.prog w base spare held fuel 57 cs = some x) :
    ∃ (l : List GV) (A : Option Addr) (c : Nat), cs = [.slice A l.length c] ∧ RV w A l ∧ l.length ≤ c ∧ ∀ x ∈ l, i64 x.num := by
  rcases open_slice Tryz.underlying57 h with ⟨hcs, hx⟩ | ⟨a, len, cap, m, n, D, Pl, hcs, hb, hl, hm, hmm, hx, hi⟩
  · subst hcs
    exact ⟨[], none, 0, rfl, fun i x hi => by simp at hi, by simp, fun x h => by cases h⟩
  · subst hcs
    rw [Tryz.cellsVal] at hi
    have hlm : len ≤ m := by rw [hmm]; split <;> omega
    obtain ⟨l, hll, hq⟩ := list_of (Q := fun i (x : GV) => i64 x.num ∧ ∀ j u, [Value.int .i64 x.kind, .int .i64 x.num, .string x.text][j]? = some u → w.cell? (a.add (i * 3 + j)) = some u) len (fun i hil => by
      obtain ⟨cs', hc, ht⟩ := hi i (by omega)
      obtain ⟨x, rfl, hxi⟩ := val_cells ht
      obtain ⟨_, hcl, hat⟩ := World.cells?_some hc
      refine ⟨x, hxi, fun j u hu => ?_⟩
      have hj : j < 3 := by
        have := (List.getElem?_eq_some_iff.1 hu).1
        simpa using this
      rw [← Go.Deep.add_add, hat j hj, hu])
    refine ⟨l, some a, cap, by rw [hll], fun i x hx' => ?_, by rw [hll]; exact hl, fun x hx' => ?_⟩
    · have q := (hq i x hx').2
      have hil : i < l.length := (List.getElem?_eq_some_iff.1 hx').1
      have z0 : w.cell? a = some (.int .i64 (l[0]'(by omega)).kind) := by
        have := (hq 0 (l[0]'(by omega)) (List.getElem?_eq_getElem _)).2 0 _ rfl
        simpa [Addr.add] using this
      obtain ⟨b, o, spot⟩ := a
      have hspot : spot = none := by
        have := World.cell?_spot z0
        simpa using this
      subst hspot
      have q' : ∀ j u, [Value.int .i64 x.kind, .int .i64 x.num, .string x.text][j]? = some u → w.cell? ⟨b, o + (i * 3 + j), none⟩ = some u := fun j u hu => by rw [← addr_add]; exact q j u hu
      exact ⟨b, o, rfl, q' 0 _ rfl, q' 1 _ rfl, q' 2 _ rfl⟩
    · obtain ⟨i, hi'⟩ := List.getElem?_of_mem hx'
      exact (hq i x hi').1
set_option maxRecDepth 100000 in
theorem Tryz.bytesVals : Tryz.prog.bytesOf 57 = 24 := by kernel_rfl
set_option maxRecDepth 100000 in
theorem rows_cap {a0 : Option Addr} {len cap : Nat} {d : DataW H} {pl : List MemPlace} (h : DataW.trod enc Tryz.prog w base (fun _ => true) held fuel 23 [.slice a0 len cap] = some (d, pl)) (hz : ∀ n ∈ d.weights Tryz.prog 23, n ≤ reachBytes) : cap ≤ 140737488355328 := by
  rcases open_slice Tryz.underlying23 h with ⟨hcs, hx⟩ | ⟨a, len', cap', m, n, D, Pl, hcs, hb, hl, hm, hmm, hx, hi⟩
  · simp at hcs
    omega
  · simp at hcs
    obtain ⟨rfl, rfl, rfl⟩ := hcs
    simp only [Prod.mk.injEq] at hx
    have hd := hx.1
    subst hd
    have := hz ((len + (m - len)) * Tryz.prog.bytesOf 57) (by simp [DataW.weights, Tryz.underlying23])
    rw [Tryz.bytesVals] at this
    simp [reachBytes] at this
    simp at hmm
    omega
set_option maxRecDepth 100000 in
theorem rows_cells {cs : List Value} {x : DataW H × List MemPlace} (h : DataW.trod enc Tryz.prog w base spare held fuel 23 cs = some x) :
    ∃ (l : List (List GV)) (A : Option Addr) (c : Nat), cs = [.slice A l.length c] ∧ RR w A l ∧ l.length ≤ c ∧ ∀ r ∈ l, ∀ x ∈ r, i64 x.num := by
  rcases open_slice Tryz.underlying23 h with ⟨hcs, hx⟩ | ⟨a, len, cap, m, n, D, Pl, hcs, hb, hl, hm, hmm, hx, hi⟩
  · subst hcs
    exact ⟨[], none, 0, rfl, fun i x hi => by simp at hi, by simp, fun x h => by cases h⟩
  · subst hcs
    rw [Tryz.cellsVals] at hi
    have hlm : len ≤ m := by rw [hmm]; split <;> omega
    obtain ⟨l, hll, hq⟩ := list_of (Q := fun i (r : List GV) => (∀ x ∈ r, i64 x.num) ∧ ∃ A1 c1, w.cell? (a.add i) = some (.slice A1 r.length c1) ∧ RV w A1 r) len (fun i hil => by
      obtain ⟨cs', hc, ht⟩ := hi i (by omega)
      obtain ⟨r, A1, c1, rfl, hr, _, hxi⟩ := vals_cells ht
      obtain ⟨_, hcl, hat⟩ := World.cells?_some hc
      refine ⟨r, hxi, A1, c1, ?_, hr⟩
      have := hat 0 (by decide)
      rw [Go.Deep.add_add, Nat.mul_one, Nat.add_zero] at this
      exact this)
    refine ⟨l, some a, cap, by rw [hll], fun i r hx' => ?_, by rw [hll]; exact hl, fun x hx' => ?_⟩
    · obtain ⟨_, A1, c1, q, hr⟩ := hq i r hx'
      have hil : i < l.length := (List.getElem?_eq_some_iff.1 hx').1
      obtain ⟨_, A0, c0, z0, _⟩ := hq 0 (l[0]'(by omega)) (List.getElem?_eq_getElem _)
      have z0 : w.cell? a = some (.slice A0 (l[0]'(by omega)).length c0) := by simpa [Addr.add] using z0
      obtain ⟨b, o, spot⟩ := a
      have hspot : spot = none := by
        have := World.cell?_spot z0
        simpa using this
      subst hspot
      exact ⟨b, o, A1, c1, rfl, by rw [← addr_add]; exact q, hr⟩
    · obtain ⟨i, hi'⟩ := List.getElem?_of_mem hx'
      exact (hq i x hi').1
end
set_option maxRecDepth 100000 in
/-- columns that come in -/
theorem open_cols {H : Type} {enc : TypeId × Value → H} {w : World} {base b0 : Nat} {r : Reach} {v : Value} {d : DataW H} {p : List MemPlace}
    (hv : Value.okWide Tryz.prog w r b0 22 v) (h : DataW.Trod enc Tryz.prog w base (fun _ => true) true 22 v d p) :
    ∃ (l : List CG) (A : Option Addr) (c : Nat), v = .slice A l.length c ∧ RC w A l ∧ l.length ≤ c ∧ ∀ x ∈ l, i64 x.id := by
  obtain ⟨a0, len, cap, rfl⟩ := okWide_slice Tryz.underlying22 hv
  obtain ⟨fuel, hf⟩ := h
  obtain ⟨l, A, c, hcs, h1⟩ := cols_cells hf
  refine ⟨l, A, c, ?_, h1⟩
  simpa [Value.cells] using hcs
set_option maxRecDepth 100000 in
/-- rows that come in -/
theorem open_rows {H : Type} {enc : TypeId × Value → H} {w : World} {base b0 : Nat} {r : Reach} {v : Value} {d : DataW H} {p : List MemPlace}
    (hv : Value.okWide Tryz.prog w r b0 23 v) (h : DataW.Trod enc Tryz.prog w base (fun _ => true) true 23 v d p) (hz : ∀ n ∈ d.weights Tryz.prog 23, n ≤ reachBytes) :
    ∃ (l : List (List GV)) (A : Option Addr) (c : Nat), v = .slice A l.length c ∧ RR w A l ∧ l.length ≤ c ∧ c ≤ 140737488355328 ∧ ∀ r ∈ l, ∀ x ∈ r, i64 x.num := by
  obtain ⟨a0, len, cap, rfl⟩ := okWide_slice Tryz.underlying23 hv
  obtain ⟨fuel, hf⟩ := h
  obtain ⟨l, A, c, hcs, h1, h2, h3⟩ := rows_cells hf
  have hcs : Value.slice a0 len cap = .slice A l.length c := by simpa [Value.cells] using hcs
  have hc : cap ≤ 140737488355328 := rows_cap (by simpa [Value.cells] using hf) hz
  obtain rfl : cap = c := by simp at hcs; exact hcs.2.2
  exact ⟨l, A, cap, hcs, h1, h2, hc, h3⟩
end Go.Proofs.YtcpllhjhnfmepaaGreatDoor
