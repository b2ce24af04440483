/- An argument that is a slice of parts: what its cells hold. -/
import Derived.Test.YtieongfdleobpaaDoorOpen
import Derived.Test.YtieongfdleobpaaDoorCond
import Derived.Deep.Slices
import Derived.Deep.Fields
import Derived.ChangeSame
namespace Go.Proofs.YtieongfdleobpaaDoor
open Go.RowKit
open Go.ChangeShapes Go.WideShapes Go.ChangeAt Go.Joins Go.Deep

theorem Tryd.cellsPart : Tryd.prog.cellsOf 47 = 5 := by kernel_rfl
theorem Tryd.bytesPart : Tryd.prog.bytesOf 47 = 56 := by kernel_rfl

theorem list_of {α : Type} {Q : Nat → α → Prop} : ∀ n, (∀ i, i < n → ∃ x, Q i x) → ∃ l : List α, l.length = n ∧ ∀ i x, l[i]? = some x → Q i x
  | 0, _ => ⟨[], rfl, fun i x h => by simp at h⟩
  | n + 1, h => by
    obtain ⟨l, hl, hq⟩ := list_of n fun i hi => h i (by omega)
    obtain ⟨y, hy⟩ := h n (by omega)
    refine ⟨l ++ [y], by simp [hl], fun i x hx => ?_⟩
    by_cases hi : i < n
    · rw [List.getElem?_append_left (by omega)] at hx
      exact hq i x hx
    · rw [List.getElem?_append_right (by omega)] at hx
      have : i = n := by
        have := (List.getElem?_eq_some_iff.1 hx).1
        simp at this; omega
      subst this
      rw [hl, Nat.sub_self] at hx
      simp at hx
      subst hx
      exact hy
theorem Tryd.cellsInt : Tryd.prog.cellsOf 3 = 1 := by kernel_rfl
theorem Tryd.cellsInt64 : Tryd.prog.cellsOf 2 = 1 := by kernel_rfl
theorem Tryd.cellsString : Tryd.prog.cellsOf 9 = 1 := by kernel_rfl
/-- the cells of a part -/
theorem part_cells {H : Type} {enc : TypeId × Value → H} {w : World} {base fuel : Nat} {spare : Nat → Bool} {held : Bool} {cs : List Value} {x : DataW H × List MemPlace} (h : DataW.trod enc Tryd.prog w base spare held fuel 47 cs = some x) :
    ∃ p : PG, cs = [.int .i64 p.code, .string p.col, .int .i64 p.v.kind, .int .i64 p.v.num, .string p.v.text] := by
  obtain ⟨y0, y1, y2, n, _, hl, h0, h1, h2⟩ := trod_struct3 Tryd.underlying47 h
  rw [Tryd.cellsPart] at hl
  match cs, hl with
  | [c0, c1, c2, c3, c4], _ =>
    simp only [Tryd.cellsInt, Tryd.cellsString, Tryd.cellsVal, List.drop_zero, List.drop_succ_cons, List.take_succ_cons, List.take_zero] at h0 h1 h2
    obtain ⟨k, e0, _, _⟩ := DataW.trod_int Tryd.underlying3 h0
    obtain ⟨col, e1, _, _⟩ := DataW.trod_string Tryd.underlying9 h1
    obtain ⟨z0, z1, z2, n', _, _, g0, g1, g2⟩ := trod_struct3 Tryd.underlying30 h2
    simp only [Tryd.cellsInt, Tryd.cellsInt64, Tryd.cellsString, List.drop_zero, List.drop_succ_cons, List.take_succ_cons, List.take_zero] at g0 g1 g2
    obtain ⟨kind, e2, _, _⟩ := DataW.trod_int Tryd.underlying3 g0
    obtain ⟨num, e3, _, _⟩ := DataW.trod_int Tryd.underlying2 g1
    obtain ⟨text, e4, _, _⟩ := DataW.trod_string Tryd.underlying9 g2
    simp only [List.cons.injEq, and_true] at e0 e1 e2 e3 e4
    subst e0 e1 e2 e3 e4
    exact ⟨⟨k, col, ⟨kind, num, text⟩⟩, rfl⟩

/-- a slice of parts that comes in -/
theorem open_parts {H : Type} {enc : TypeId × Value → H} {w : World} {base b0 : Nat} {r : Reach} {v : Value} {d : DataW H} {p : List MemPlace}
    (hv : Value.okWide Tryd.prog w r b0 23 v) (h : DataW.Trod enc Tryd.prog w base (fun _ => true) true 23 v d p) (hz : ∀ n ∈ d.weights Tryd.prog 23, n ≤ reachBytes) :
    ∃ (l : List PG) (A : Option Addr) (c : Nat), v = .slice A l.length c ∧ RP w A l ∧ l.length ≤ 140737488355328 := by
  obtain ⟨a0, len, cap, rfl⟩ := okWide_slice Tryd.underlying23 hv
  obtain ⟨fuel, hf⟩ := h
  rcases open_slice Tryd.underlying23 hf with ⟨hcs, hx⟩ | ⟨a, len', cap', m, n, D, Pl, hcs, hb, hl, hm, hmm, hx, hi⟩
  · simp [Value.cells] at hcs
    obtain ⟨rfl, rfl, rfl⟩ := hcs
    exact ⟨[], none, 0, rfl, fun i x hi => by simp at hi, by simp⟩
  · simp [Value.cells] at hcs
    obtain ⟨rfl, rfl, rfl⟩ := hcs
    rw [Tryd.cellsPart] at hi
    have hlm : len ≤ m := by rw [hmm]; split <;> omega
    obtain ⟨l, hll, hq⟩ := list_of (Q := fun i (x : PG) => ∀ j u, [Value.int .i64 x.code, .string x.col, .int .i64 x.v.kind, .int .i64 x.v.num, .string x.v.text][j]? = some u → w.cell? (a.add (i * 5 + j)) = some u) len (fun i hil => by
      obtain ⟨cs', hc, ht⟩ := hi i (by omega)
      obtain ⟨x, rfl⟩ := part_cells ht
      obtain ⟨_, hcl, hat⟩ := World.cells?_some hc
      refine ⟨x, fun j u hu => ?_⟩
      have hj : j < 5 := by
        have := (List.getElem?_eq_some_iff.1 hu).1
        simpa using this
      rw [← Go.Deep.add_add, hat j hj, hu])
    refine ⟨l, some a, cap, by rw [hll], ?_, ?_⟩
    · intro i x hx'
      have q := hq i x hx'
      have q0 := q 0 _ rfl
      have q1 := q 1 _ rfl
      have q2 := q 2 _ rfl
      have q3 := q 3 _ rfl
      have q4 := q 4 _ rfl
      have hil : i < l.length := (List.getElem?_eq_some_iff.1 hx').1
      have z0 : w.cell? a = some (.int .i64 (l[0]'(by omega)).code) := by
        have := hq 0 (l[0]'(by omega)) (List.getElem?_eq_getElem _) 0 _ rfl
        simpa [Addr.add] using this
      obtain ⟨b, o, spot⟩ := a
      have hspot : spot = none := by
        have := World.cell?_spot z0
        simpa using this
      subst hspot
      refine ⟨b, o, rfl, ?_, ?_, ?_, ?_, ?_⟩
      · by_cases hi0 : i = 0
        · subst hi0
          simpa [Addr.add] using q0
        · have : i * 5 ≠ 0 := by omega
          simpa [Addr.add, Nat.add_assoc, this] using q0
      · simpa [Addr.add, Nat.add_assoc] using q1
      · simpa [Addr.add, Nat.add_assoc] using q2
      · simpa [Addr.add, Nat.add_assoc] using q3
      · simpa [Addr.add, Nat.add_assoc] using q4
    · rw [hll]
      simp only [Prod.mk.injEq] at hx
      have hd := hx.1
      subst hd
      have := hz ((len + (m - len)) * Tryd.prog.bytesOf 47) (by simp [DataW.weights, Tryd.underlying23])
      rw [Tryd.bytesPart] at this
      simp [reachBytes] at this
      omega
end Go.Proofs.YtieongfdleobpaaDoor
