/- An argument that is a slice of deeds of a bucket: what its cells hold. -/
import Derived.Test.YtbfccjjnnkomcaaDoorOpenSl
import Derived.Test.YtbfccjjnnkomcaaDoorPlays
import Derived.Lib.SmallJoins
namespace Go.Proofs.YtbfccjjnnkomcaaDoor
set_option linter.unusedSimpArgs false
set_option linter.unusedVariables false
open Go.RowKit
set_option linter.all false
open Go.ChangeShapes Go.WideShapes Go.ChangeAt Go.Joins Go.Deep
theorem Tryd.cellsInts : Tryd.prog.cellsOf 23 = 1 := by kernel_rfl
theorem Tryd.cellsDeed : Tryd.prog.cellsOf 47 = 4 := by kernel_rfl
section
variable {H : Type} {enc : TypeId × Value → H} {w : World} {base fuel : Nat} {spare : Nat → Bool} {held : Bool}
set_option maxRecDepth 100000 in
theorem ints_cells {cs : List Value} {x : DataW H × List MemPlace} (h : DataW.trod enc Tryd.prog w base spare held fuel 23 cs = some x) : ∃ (l : List Int) (A : Option Addr) (c : Nat), cs = [.slice A l.length c] ∧ RI w A l ∧ (A = none → c = 0) := by
  rcases open_slice Tryd.underlying23 h with ⟨rfl, hx⟩ | ⟨a, len, cap, m, n, D, Pl, rfl, hb, hl, hm, hmm, hx, hi⟩
  · exact ⟨[], none, 0, rfl, (fun i x hi => by simp at hi), fun _ => rfl⟩
  · rw [Tryd.cellsInt] at hi
    have hlm : len ≤ m := by rw [hmm]; split <;> omega
    obtain ⟨l, hll, hq⟩ := list_of (Q := fun i (x : Int) => w.cell? (a.add i) = some (.int .i64 x)) len (fun i hil => by
      obtain ⟨cs', hc, ht⟩ := hi i (by omega)
      obtain ⟨x, e0, _, _⟩ := DataW.trod_int Tryd.underlying3 ht
      subst e0
      obtain ⟨_, hcl, hat⟩ := World.cells?_some hc
      refine ⟨x, ?_⟩
      have := hat 0 (by omega)
      rw [Nat.mul_one, Go.Deep.add_add, Nat.add_zero] at this
      rw [this]
      rfl)
    refine ⟨l, some a, cap, by rw [hll], fun i x hx' => ?_, fun e => by cases e⟩
    have q := hq i x hx'
    have hil : i < l.length := (List.getElem?_eq_some_iff.1 hx').1
    have z0 : w.cell? a = some (.int .i64 (l[0]'(by omega))) := by
      have := hq 0 (l[0]'(by omega)) (List.getElem?_eq_getElem _)
      simpa [Addr.add] using this
    obtain ⟨b, o, spot⟩ := a
    have hspot : spot = none := by
      have := World.cell?_spot z0
      simpa using this
    subst hspot
    exact ⟨b, o, rfl, by rw [← addr_plus]; exact q⟩
set_option maxRecDepth 100000 in
theorem deed_cells {cs : List Value} {x : DataW H × List MemPlace} (h : DataW.trod enc Tryd.prog w base spare held fuel 47 cs = some x) :
    ∃ (p : PD) (A : Option Addr) (c : Nat), cs = [.int .i64 p.what, .string p.key, .string p.s, .slice A p.F.length c] ∧ RI w A p.F ∧ (A = none → c = 0) := by
  obtain ⟨y0, y1, y2, y3, n, _, hl, h0, h1, h2, h3⟩ := trod_struct4 Tryd.underlying47 h
  rw [Tryd.cellsDeed] at hl
  match cs, hl with
  | [c0, c1, c2, c3], _ =>
    simp only [Tryd.cellsInt, Tryd.cellsInts, Tryd.cellsString, List.drop_zero, List.drop_succ_cons, List.take_succ_cons, List.take_zero] at h0 h1 h2 h3
    obtain ⟨what, e0, _, _⟩ := DataW.trod_int Tryd.underlying3 h0
    obtain ⟨k, e1, _, _⟩ := DataW.trod_string Tryd.underlying9 h1
    obtain ⟨s, e2, _, _⟩ := DataW.trod_string Tryd.underlying9 h2
    obtain ⟨F, A, c, e3, hr, h0'⟩ := ints_cells h3
    simp only [List.cons.injEq, and_true] at e0 e1 e2 e3
    subst e0 e1 e2 e3
    exact ⟨⟨what, k, s, F⟩, A, c, rfl, hr, h0'⟩
end
set_option maxRecDepth 100000 in
/-- a slice of deeds that comes in -/
theorem open_deeds {H : Type} {enc : TypeId × Value → H} {w : World} {base b0 : Nat} {r : Reach} {v : Value} {d : DataW H} {p : List MemPlace}
    (hv : Value.okWide Tryd.prog w r b0 43 v) (h : DataW.Trod enc Tryd.prog w base (fun _ => true) true 43 v d p) :
    ∃ (l : List PD) (A : Option Addr) (c : Nat), v = .slice A l.length c ∧ RD w A l := by
  obtain ⟨a0, len, cap, rfl⟩ := okWide_slice Tryd.underlying43 hv
  obtain ⟨fuel, hf⟩ := h
  rcases open_slice Tryd.underlying43 hf with ⟨hcs, hx⟩ | ⟨a, len', cap', m, n, D, Pl, hcs, hb, hl, hm, hmm, hx, hi⟩
  · simp [Value.cells] at hcs
    obtain ⟨rfl, rfl, rfl⟩ := hcs
    exact ⟨[], none, 0, rfl, fun i x hi => by simp at hi⟩
  · simp [Value.cells] at hcs
    obtain ⟨rfl, rfl, rfl⟩ := hcs
    rw [Tryd.cellsDeed] at hi
    have hlm : len ≤ m := by rw [hmm]; split <;> omega
    obtain ⟨l, hll, hq⟩ := list_of (Q := fun i (x : PD) => ∃ (A1 : Option Addr) (c1 : Nat), (∀ j u, [Value.int .i64 x.what, .string x.key, .string x.s, .slice A1 x.F.length c1][j]? = some u → w.cell? (a.add (i * 4 + j)) = some u) ∧ RI w A1 x.F ∧ (A1 = none → c1 = 0)) len (fun i hil => by
      obtain ⟨cs', hc, ht⟩ := hi i (by omega)
      obtain ⟨x, A1, c1, rfl, hr1, h01⟩ := deed_cells ht
      obtain ⟨_, hcl, hat⟩ := World.cells?_some hc
      refine ⟨x, A1, c1, fun j u hu => ?_, hr1, h01⟩
      have hj : j < 4 := by
        have := (List.getElem?_eq_some_iff.1 hu).1
        simpa using this
      rw [← Go.Deep.add_add, hat j hj, hu])
    refine ⟨l, some a, cap, by rw [hll], fun i x hx' => ?_⟩
    obtain ⟨A1, c1, q, hr1, h01⟩ := hq i x hx'
    have hil : i < l.length := (List.getElem?_eq_some_iff.1 hx').1
    have z0 : w.cell? a = some (.int .i64 (l[0]'(by omega)).what) := by
      obtain ⟨_, _, q0, _⟩ := hq 0 (l[0]'(by omega)) (List.getElem?_eq_getElem _)
      have := q0 0 _ rfl
      simpa [Addr.add] using this
    obtain ⟨b, o, spot⟩ := a
    have hspot : spot = none := by
      have := World.cell?_spot z0
      simpa using this
    subst hspot
    have q' : ∀ j u, [Value.int .i64 x.what, .string x.key, .string x.s, .slice A1 x.F.length c1][j]? = some u → w.cell? ⟨b, o + (i * 4 + j), none⟩ = some u := fun j u hu => by rw [← addr_plus]; exact q j u hu
    exact ⟨b, o, A1, c1, rfl, q' 0 _ rfl, q' 1 _ rfl, q' 2 _ rfl, q' 3 _ rfl, hr1, h01⟩
end Go.Proofs.YtbfccjjnnkomcaaDoor
