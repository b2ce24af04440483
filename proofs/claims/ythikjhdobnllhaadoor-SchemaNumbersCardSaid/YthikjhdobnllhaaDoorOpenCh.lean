/- An argument that is a slice of changes of columns: what its cells hold. -/
import Derived.Test.YthikjhdobnllhaaDoorOpenSl
import Derived.Test.YthikjhdobnllhaaDoorSchPre
import Derived.Lib.SmallJoins
namespace Go.Proofs.YthikjhdobnllhaaDoor
set_option linter.unusedSimpArgs false
set_option linter.unusedVariables false
open Go.RowKit
set_option linter.all false
open Go.ChangeShapes Go.WideShapes Go.ChangeAt Go.Joins Go.Deep
theorem Tryd.cellsBool : Tryd.prog.cellsOf 4 = 1 := by kernel_rfl
theorem Tryd.cellsCol : Tryd.prog.cellsOf 27 = 7 := by kernel_rfl
theorem Tryd.cellsCh : Tryd.prog.cellsOf 31 = 10 := by kernel_rfl
theorem trod_struct5 {H : Type} {enc : TypeId × Value → H} {P : Program} {w : World} {base : Nat} {spare : Nat → Bool} {held : Bool} {t : TypeId} {f0 f1 f2 f3 f4 : Field} {fuel : Nat} {cs : List Value} {x : DataW H × List MemPlace} (ht : P.underlying t = some (.struct #[f0, f1, f2, f3, f4])) (h : DataW.trod enc P w base spare held fuel t cs = some x) :
    ∃ y0 y1 y2 y3 y4 n, cs.length = P.cellsOf t ∧ DataW.trod enc P w base spare held n f0.type ((cs.drop f0.offset).take (P.cellsOf f0.type)) = some y0 ∧
      DataW.trod enc P w base spare held n f1.type ((cs.drop f1.offset).take (P.cellsOf f1.type)) = some y1 ∧ DataW.trod enc P w base spare held n f2.type ((cs.drop f2.offset).take (P.cellsOf f2.type)) = some y2 ∧
      DataW.trod enc P w base spare held n f3.type ((cs.drop f3.offset).take (P.cellsOf f3.type)) = some y3 ∧ DataW.trod enc P w base spare held n f4.type ((cs.drop f4.offset).take (P.cellsOf f4.type)) = some y4 := by
  obtain ⟨xs, n, _, rfl, hl, hlen, hf⟩ := DataW.trod_struct ht h
  match xs, hlen with
  | [y0, y1, y2, y3, y4], _ => exact ⟨y0, y1, y2, y3, y4, n, hl, by simpa using hf 0 f0 rfl, by simpa using hf 1 f1 rfl, by simpa using hf 2 f2 rfl, by simpa using hf 3 f3 rfl, by simpa using hf 4 f4 rfl⟩
section
variable {H : Type} {enc : TypeId × Value → H} {w : World} {base fuel : Nat} {spare : Nat → Bool} {held : Bool}
theorem gv_cells3 {c0 c1 c2 : Value} {x : DataW H × List MemPlace} (h : DataW.trod enc Tryd.prog w base spare held fuel 25 [c0, c1, c2] = some x) : ∃ p : GV, c0 = .int .i64 p.kind ∧ c1 = .int .i64 p.num ∧ c2 = .string p.text := by
  obtain ⟨y0, y1, y2, n, _, hl, h0, h1, h2⟩ := trod_struct3 Tryd.underlying25 h
  simp only [Tryd.cellsInt, Tryd.cellsInt64, Tryd.cellsString, List.drop_zero, List.drop_succ_cons, List.take_succ_cons, List.take_zero] at h0 h1 h2
  obtain ⟨kind, e2, _, _⟩ := DataW.trod_int Tryd.underlying3 h0
  obtain ⟨num, e3, _, _⟩ := DataW.trod_int Tryd.underlying2 h1
  obtain ⟨text, e4, _, _⟩ := DataW.trod_string Tryd.underlying9 h2
  simp only [List.cons.injEq, and_true] at e2 e3 e4
  exact ⟨⟨kind, num, text⟩, e2, e3, e4⟩
theorem col_cells {c0 c1 c2 c3 c4 c5 c6 : Value} {x : DataW H × List MemPlace} (h : DataW.trod enc Tryd.prog w base spare held fuel 27 [c0, c1, c2, c3, c4, c5, c6] = some x) : ∃ p : CG, c0 = .int .i64 p.id ∧ c1 = .string p.name ∧ c2 = .int .i64 p.kind ∧ c3 = .bool p.must ∧ c4 = .int .i64 p.d.kind ∧ c5 = .int .i64 p.d.num ∧ c6 = .string p.d.text := by
  obtain ⟨y0, y1, y2, y3, y4, n, hl, h0, h1, h2, h3, h4⟩ := trod_struct5 Tryd.underlying27 h
  simp only [Tryd.cellsInt, Tryd.cellsBool, Tryd.cellsString, Tryd.cellsVal, List.drop_zero, List.drop_succ_cons, List.take_succ_cons, List.take_zero] at h0 h1 h2 h3 h4
  obtain ⟨id, e0, _, _⟩ := DataW.trod_int Tryd.underlying3 h0
  obtain ⟨nm, e1, _, _⟩ := DataW.trod_string Tryd.underlying9 h1
  obtain ⟨kd, e2, _, _⟩ := DataW.trod_int Tryd.underlying3 h2
  obtain ⟨mu, e3, _⟩ := DataW.trod_bool Tryd.underlying4 h3
  obtain ⟨d, e4, e5, e6⟩ := gv_cells3 h4
  simp only [List.cons.injEq, and_true] at e0 e1 e2 e3
  exact ⟨⟨id, nm, kd, mu, d⟩, e0, e1, e2, e3, e4, e5, e6⟩
set_option maxRecDepth 100000 in
theorem ch_cells {cs : List Value} {x : DataW H × List MemPlace} (h : DataW.trod enc Tryd.prog w base spare held fuel 31 cs = some x) :
    ∃ p : HG, cs = [.int .i64 p.what, .int .i64 p.c.id, .string p.c.name, .int .i64 p.c.kind, .bool p.c.must, .int .i64 p.c.d.kind, .int .i64 p.c.d.num, .string p.c.d.text, .string p.name, .string p.tgt] := by
  obtain ⟨y0, y1, y2, y3, n, _, hl, h0, h1, h2, h3⟩ := trod_struct4 Tryd.underlying31 h
  rw [Tryd.cellsCh] at hl
  match cs, hl with
  | [c0, c1, c2, c3, c4, c5, c6, c7, c8, c9], _ =>
    simp only [Tryd.cellsInt, Tryd.cellsCol, Tryd.cellsString, List.drop_zero, List.drop_succ_cons, List.take_succ_cons, List.take_zero] at h0 h1 h2 h3
    obtain ⟨what, e0, _, _⟩ := DataW.trod_int Tryd.underlying3 h0
    obtain ⟨nm, e2, _, _⟩ := DataW.trod_string Tryd.underlying9 h2
    obtain ⟨tg, e3, _, _⟩ := DataW.trod_string Tryd.underlying9 h3
    obtain ⟨c, f0, f1, f2, f3, f4, f5, f6⟩ := col_cells h1
    simp only [List.cons.injEq, and_true] at e0 e2 e3
    subst e0 e2 e3 f0 f1 f2 f3 f4 f5 f6
    exact ⟨⟨what, c, nm, tg⟩, rfl⟩
end
set_option maxRecDepth 100000 in
/-- a slice of changes that comes in -/
theorem open_changes {H : Type} {enc : TypeId × Value → H} {w : World} {base b0 : Nat} {r : Reach} {v : Value} {d : DataW H} {p : List MemPlace}
    (hv : Value.okWide Tryd.prog w r b0 22 v) (h : DataW.Trod enc Tryd.prog w base (fun _ => true) true 22 v d p) :
    ∃ (l : List HG) (A : Option Addr) (c : Nat), v = .slice A l.length c ∧ RH w A l := by
  obtain ⟨a0, len, cap, rfl⟩ := okWide_slice Tryd.underlying22 hv
  obtain ⟨fuel, hf⟩ := h
  rcases open_slice Tryd.underlying22 hf with ⟨hcs, hx⟩ | ⟨a, len', cap', m, n, D, Pl, hcs, hb, hl, hm, hmm, hx, hi⟩
  · simp [Value.cells] at hcs
    obtain ⟨rfl, rfl, rfl⟩ := hcs
    exact ⟨[], none, 0, rfl, fun i x hi => by simp at hi⟩
  · simp [Value.cells] at hcs
    obtain ⟨rfl, rfl, rfl⟩ := hcs
    rw [Tryd.cellsCh] at hi
    have hlm : len ≤ m := by rw [hmm]; split <;> omega
    obtain ⟨l, hll, hq⟩ := list_of (Q := fun i (x : HG) => ∀ j u, [Value.int .i64 x.what, .int .i64 x.c.id, .string x.c.name, .int .i64 x.c.kind, .bool x.c.must, .int .i64 x.c.d.kind, .int .i64 x.c.d.num, .string x.c.d.text, .string x.name, .string x.tgt][j]? = some u → w.cell? (a.add (i * 10 + j)) = some u) len (fun i hil => by
      obtain ⟨cs', hc, ht⟩ := hi i (by omega)
      obtain ⟨x, rfl⟩ := ch_cells ht
      obtain ⟨_, hcl, hat⟩ := World.cells?_some hc
      refine ⟨x, fun j u hu => ?_⟩
      have hj : j < 10 := by
        have := (List.getElem?_eq_some_iff.1 hu).1
        simpa using this
      rw [← Go.Deep.add_add, hat j hj, hu])
    refine ⟨l, some a, cap, by rw [hll], fun i x hx' => ?_⟩
    have q := hq i x hx'
    have hil : i < l.length := (List.getElem?_eq_some_iff.1 hx').1
    have z0 : w.cell? a = some (.int .i64 (l[0]'(by omega)).what) := by
      have := hq 0 (l[0]'(by omega)) (List.getElem?_eq_getElem _) 0 _ rfl
      simpa [Addr.add] using this
    obtain ⟨b, o, spot⟩ := a
    have hspot : spot = none := by
      have := World.cell?_spot z0
      simpa using this
    subst hspot
    have q' : ∀ j u, [Value.int .i64 x.what, .int .i64 x.c.id, .string x.c.name, .int .i64 x.c.kind, .bool x.c.must, .int .i64 x.c.d.kind, .int .i64 x.c.d.num, .string x.c.d.text, .string x.name, .string x.tgt][j]? = some u → w.cell? ⟨b, o + (i * 10 + j), none⟩ = some u := fun j u hu => by rw [← addr_add]; exact q j u hu
    exact ⟨b, o, rfl, q' 0 _ rfl, q' 1 _ rfl, q' 2 _ rfl, q' 3 _ rfl, q' 4 _ rfl, q' 5 _ rfl, q' 6 _ rfl, q' 7 _ rfl, q' 8 _ rfl, q' 9 _ rfl⟩
end Go.Proofs.YthikjhdobnllhaaDoor
