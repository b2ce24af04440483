/- Arguments that are slices of puts, of numbers: what their cells hold. -/
import Derived.Test.YtbfccjjnnkomcaaDoorOpenSl
import Derived.Test.YtbfccjjnnkomcaaDoorBonce
import Derived.Lib.SmallJoins
namespace Go.Proofs.YtbfccjjnnkomcaaDoor
set_option linter.unusedSimpArgs false
set_option linter.unusedVariables false
open Go.RowKit
set_option linter.all false
open Go.ChangeShapes Go.WideShapes Go.ChangeAt Go.Joins Go.Deep
theorem Tryd.cellsBool : Tryd.prog.cellsOf 4 = 1 := by kernel_rfl
theorem Tryd.cellsPut : Tryd.prog.cellsOf 30 = 3 := by kernel_rfl
section
variable {H : Type} {enc : TypeId × Value → H} {w : World} {base fuel : Nat} {spare : Nat → Bool} {held : Bool}
set_option maxRecDepth 100000 in
theorem put_cells {cs : List Value} {x : DataW H × List MemPlace} (h : DataW.trod enc Tryd.prog w base spare held fuel 30 cs = some x) : ∃ p : PG, cs = [.string p.key, .string p.s, .bool p.goes] := by
  obtain ⟨y0, y1, y2, n, _, hl, h0, h1, h2⟩ := trod_struct3 Tryd.underlying30 h
  rw [Tryd.cellsPut] at hl
  match cs, hl with
  | [c0, c1, c2], _ =>
    simp only [Tryd.cellsBool, Tryd.cellsString, List.drop_zero, List.drop_succ_cons, List.take_succ_cons, List.take_zero] at h0 h1 h2
    obtain ⟨k, e0, _, _⟩ := DataW.trod_string Tryd.underlying9 h0
    obtain ⟨s, e1, _, _⟩ := DataW.trod_string Tryd.underlying9 h1
    obtain ⟨g, e2, _⟩ := DataW.trod_bool Tryd.underlying4 h2
    simp only [List.cons.injEq, and_true] at e0 e1 e2
    subst e0 e1 e2
    exact ⟨⟨k, s, g⟩, rfl⟩
end
set_option maxRecDepth 100000 in
/-- a slice of puts that comes in -/
theorem open_puts {H : Type} {enc : TypeId × Value → H} {w : World} {base b0 : Nat} {r : Reach} {v : Value} {d : DataW H} {p : List MemPlace}
    (hv : Value.okWide Tryd.prog w r b0 22 v) (h : DataW.Trod enc Tryd.prog w base (fun _ => true) true 22 v d p) :
    ∃ (l : List PG) (A : Option Addr) (c : Nat), v = .slice A l.length c ∧ RP w A l := by
  obtain ⟨a0, len, cap, rfl⟩ := okWide_slice Tryd.underlying22 hv
  obtain ⟨fuel, hf⟩ := h
  rcases open_slice Tryd.underlying22 hf with ⟨hcs, hx⟩ | ⟨a, len', cap', m, n, D, Pl, hcs, hb, hl, hm, hmm, hx, hi⟩
  · simp [Value.cells] at hcs
    obtain ⟨rfl, rfl, rfl⟩ := hcs
    exact ⟨[], none, 0, rfl, fun i x hi => by simp at hi⟩
  · simp [Value.cells] at hcs
    obtain ⟨rfl, rfl, rfl⟩ := hcs
    rw [Tryd.cellsPut] at hi
    have hlm : len ≤ m := by rw [hmm]; split <;> omega
    obtain ⟨l, hll, hq⟩ := list_of (Q := fun i (x : PG) => ∀ j u, [Value.string x.key, .string x.s, .bool x.goes][j]? = some u → w.cell? (a.add (i * 3 + j)) = some u) len (fun i hil => by
      obtain ⟨cs', hc, ht⟩ := hi i (by omega)
      obtain ⟨x, rfl⟩ := put_cells ht
      obtain ⟨_, hcl, hat⟩ := World.cells?_some hc
      refine ⟨x, fun j u hu => ?_⟩
      have hj : j < 3 := by
        have := (List.getElem?_eq_some_iff.1 hu).1
        simpa using this
      rw [← Go.Deep.add_add, hat j hj, hu])
    refine ⟨l, some a, cap, by rw [hll], fun i x hx' => ?_⟩
    have q := hq i x hx'
    have hil : i < l.length := (List.getElem?_eq_some_iff.1 hx').1
    have z0 : w.cell? a = some (.string (l[0]'(by omega)).key) := by
      have := hq 0 (l[0]'(by omega)) (List.getElem?_eq_getElem _) 0 _ rfl
      simpa [Addr.add] using this
    obtain ⟨b, o, spot⟩ := a
    have hspot : spot = none := by
      have := World.cell?_spot z0
      simpa using this
    subst hspot
    have q' : ∀ j u, [Value.string x.key, .string x.s, .bool x.goes][j]? = some u → w.cell? ⟨b, o + (i * 3 + j), none⟩ = some u := fun j u hu => by rw [← addr_plus]; exact q j u hu
    exact ⟨b, o, rfl, q' 0 _ rfl, q' 1 _ rfl, q' 2 _ rfl⟩
set_option maxRecDepth 100000 in
/-- a slice of numbers that comes in -/
theorem open_ints {H : Type} {enc : TypeId × Value → H} {w : World} {base b0 : Nat} {r : Reach} {v : Value} {d : DataW H} {p : List MemPlace}
    (hv : Value.okWide Tryd.prog w r b0 23 v) (h : DataW.Trod enc Tryd.prog w base (fun _ => true) true 23 v d p) :
    ∃ (l : List Int) (A : Option Addr) (c : Nat), v = .slice A l.length c ∧ RI w A l ∧ (A = none → c = 0) := by
  obtain ⟨a0, len, cap, rfl⟩ := okWide_slice Tryd.underlying23 hv
  obtain ⟨fuel, hf⟩ := h
  rcases open_slice Tryd.underlying23 hf with ⟨hcs, hx⟩ | ⟨a, len', cap', m, n, D, Pl, hcs, hb, hl, hm, hmm, hx, hi⟩
  · simp [Value.cells] at hcs
    obtain ⟨rfl, rfl, rfl⟩ := hcs
    exact ⟨[], none, 0, rfl, (fun i x hi => by simp at hi), fun _ => rfl⟩
  · simp [Value.cells] at hcs
    obtain ⟨rfl, rfl, rfl⟩ := hcs
    rw [Tryd.cellsInt] at hi
    have hlm : len ≤ m := by rw [hmm]; split <;> omega
    obtain ⟨l, hll, hq⟩ := list_of (Q := fun i (x : Int) => w.cell? (a.add i) = some (.int .i64 x)) len (fun i hil => by
      obtain ⟨cs', hc, ht⟩ := hi i (by omega)
      obtain ⟨x, e0, _, _⟩ := DataW.trod_int Tryd.underlying3 ht
      subst e0
      obtain ⟨_, hcl, hat⟩ := World.cells?_some hc
      refine ⟨x, ?_⟩
      have := hat 0 (by omega)
      rw [Nat.mul_one, Go.Deep.add_add, Nat.add_zero] at this
      rw [this]
      rfl)
    refine ⟨l, some a, cap, by rw [hll], fun i x hx' => ?_, fun e => by cases e⟩
    have q := hq i x hx'
    have hil : i < l.length := (List.getElem?_eq_some_iff.1 hx').1
    have z0 : w.cell? a = some (.int .i64 (l[0]'(by omega))) := by
      have := hq 0 (l[0]'(by omega)) (List.getElem?_eq_getElem _)
      simpa [Addr.add] using this
    obtain ⟨b, o, spot⟩ := a
    have hspot : spot = none := by
      have := World.cell?_spot z0
      simpa using this
    subst hspot
    exact ⟨b, o, rfl, by rw [← addr_plus]; exact q⟩
end Go.Proofs.YtbfccjjnnkomcaaDoor
