/- An argument that is a slice of values: what its cells hold. -/
import Derived.Test.YtieongfdleobpaaOpenSl
namespace Go.Proofs.Ytieongfdleobpaa
set_option linter.unusedSimpArgs false
set_option linter.unusedVariables false
open Go.RowKit
set_option linter.all false
open Go.ChangeShapes Go.WideShapes Go.ChangeAt Go.Joins Go.Deep
theorem Try.bytesVal : Try.prog.bytesOf 23 = 32 := by kernel_rfl
/-- the cells of a value -/
theorem val_cells {H : Type} {enc : TypeId × Value → H} {w : World} {base fuel : Nat} {spare : Nat → Bool} {held : Bool} {cs : List Value} {x : DataW H × List MemPlace} (h : DataW.trod enc Try.prog w base spare held fuel 23 cs = some x) :
    ∃ p : GV, cs = [.int .i64 p.kind, .int .i64 p.num, .string p.text] ∧ i64 p.num := by
  obtain ⟨y0, y1, y2, n, _, hl, h0, h1, h2⟩ := trod_struct3 Try.underlying23 h
  rw [Try.cellsVal] at hl
  match cs, hl with
  | [c0, c1, c2], _ =>
    simp only [Try.cellsInt, Try.cellsInt64, Try.cellsString, List.drop_zero, List.drop_succ_cons, List.take_succ_cons, List.take_zero] at h0 h1 h2
    obtain ⟨kind, e2, _, _⟩ := DataW.trod_int Try.underlying3 h0
    obtain ⟨num, e3, _, wn⟩ := DataW.trod_int Try.underlying2 h1
    obtain ⟨text, e4, _, _⟩ := DataW.trod_string Try.underlying9 h2
    simp only [List.cons.injEq, and_true] at e2 e3 e4
    subst e2 e3 e4
    exact ⟨⟨kind, num, text⟩, rfl, i64_wf wn⟩
/-- a slice of values that comes in -/
theorem open_vals64 {H : Type} {enc : TypeId × Value → H} {w : World} {base b0 : Nat} {r : Reach} {v : Value} {d : DataW H} {p : List MemPlace}
    (hv : Value.okWide Try.prog w r b0 42 v) (h : DataW.Trod enc Try.prog w base (fun _ => true) true 42 v d p) (hz : ∀ n ∈ d.weights Try.prog 42, n ≤ reachBytes) :
    ∃ (l : List GV) (A : Option Addr) (c : Nat), v = .slice A l.length c ∧ RV w A l ∧ l.length ≤ 140737488355328 ∧ l.length ≤ c ∧ ∀ x ∈ l, i64 x.num := by
  obtain ⟨a0, len, cap, rfl⟩ := okWide_slice Try.underlying42 hv
  obtain ⟨fuel, hf⟩ := h
  rcases open_slice Try.underlying42 hf with ⟨hcs, hx⟩ | ⟨a, len', cap', m, n, D, Pl, hcs, hb, hl, hm, hmm, hx, hi⟩
  · simp [Value.cells] at hcs
    obtain ⟨rfl, rfl, rfl⟩ := hcs
    exact ⟨[], none, 0, rfl, fun i x hi => by simp at hi, by simp, by simp, fun x h => by cases h⟩
  · simp [Value.cells] at hcs
    obtain ⟨rfl, rfl, rfl⟩ := hcs
    rw [Try.cellsVal] at hi
    have hlm : len ≤ m := by rw [hmm]; split <;> omega
    obtain ⟨l, hll, hq⟩ := list_of (Q := fun i (x : GV) => i64 x.num ∧ ∀ j u, [Value.int .i64 x.kind, .int .i64 x.num, .string x.text][j]? = some u → w.cell? (a.add (i * 3 + j)) = some u) len (fun i hil => by
      obtain ⟨cs', hc, ht⟩ := hi i (by omega)
      obtain ⟨x, rfl, hxi⟩ := val_cells ht
      obtain ⟨_, hcl, hat⟩ := World.cells?_some hc
      refine ⟨x, hxi, fun j u hu => ?_⟩
      have hj : j < 3 := by
        have := (List.getElem?_eq_some_iff.1 hu).1
        simpa using this
      rw [← Go.Deep.add_add, hat j hj, hu])
    refine ⟨l, some a, cap, by rw [hll], ?_, ?_, by rw [hll]; exact hl, fun x hx => ?_⟩
    · intro i x hx'
      have q := (hq i x hx').2
      have q0 := q 0 _ rfl
      have q1 := q 1 _ rfl
      have q2 := q 2 _ rfl
      have hil : i < l.length := (List.getElem?_eq_some_iff.1 hx').1
      have z0 : w.cell? a = some (.int .i64 (l[0]'(by omega)).kind) := by
        have := (hq 0 (l[0]'(by omega)) (List.getElem?_eq_getElem _)).2 0 _ rfl
        simpa [Addr.add] using this
      obtain ⟨b, o, spot⟩ := a
      have hspot : spot = none := by
        have := World.cell?_spot z0
        simpa using this
      subst hspot
      refine ⟨b, o, rfl, ?_, ?_, ?_⟩
      · by_cases hi0 : i = 0
        · subst hi0
          simpa [Addr.add] using q0
        · have : i * 3 ≠ 0 := by omega
          simpa [Addr.add, Nat.add_assoc, this] using q0
      · simpa [Addr.add, Nat.add_assoc] using q1
      · simpa [Addr.add, Nat.add_assoc] using q2
    · rw [hll]
      simp only [Prod.mk.injEq] at hx
      have hd := hx.1
      subst hd
      have := hz ((len + (m - len)) * Try.prog.bytesOf 23) (by simp [DataW.weights, Try.underlying42])
      rw [Try.bytesVal] at this
      simp [reachBytes] at this
      omega
    · obtain ⟨i, hi⟩ := List.getElem?_of_mem hx
      exact (hq i x hi).1
theorem open_vals {H : Type} {enc : TypeId × Value → H} {w : World} {base b0 : Nat} {r : Reach} {v : Value} {d : DataW H} {p : List MemPlace}
    (hv : Value.okWide Try.prog w r b0 42 v) (h : DataW.Trod enc Try.prog w base (fun _ => true) true 42 v d p) (hz : ∀ n ∈ d.weights Try.prog 42, n ≤ reachBytes) :
    ∃ (l : List GV) (A : Option Addr) (c : Nat), v = .slice A l.length c ∧ RV w A l ∧ l.length ≤ 140737488355328 ∧ l.length ≤ c := by
  obtain ⟨l, A, c, h1, h2, h3, h4, _⟩ := open_vals64 hv h hz
  exact ⟨l, A, c, h1, h2, h3, h4⟩
end Go.Proofs.Ytieongfdleobpaa
