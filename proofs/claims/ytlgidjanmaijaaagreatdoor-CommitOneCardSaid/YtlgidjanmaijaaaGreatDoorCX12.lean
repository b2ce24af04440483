/- Texts joined: Arguments that are commits: what their cells hold. Arguments that are turns of who writes: what their cells hold. -/
import Derived.Test.YtlgidjanmaijaaaGreatDoorCX01
import Derived.Test.YtlgidjanmaijaaaGreatDoorCX11
import Derived.Lib.SmallJoins
import Derived.Test.YtlgidjanmaijaaaGreatDoorCX04
/- Arguments that are commits: what their cells hold. -/
namespace Go.Proofs.YtlgidjanmaijaaaGreatDoor
set_option linter.unusedSimpArgs false
set_option linter.unusedVariables false
open Go.RowKit
set_option linter.all false
open Go.ChangeShapes Go.WideShapes Go.ChangeAt Go.Joins Go.Deep
theorem Tryz.cellsBool : Tryz.prog.cellsOf 4 = 1 := by kernel_rfl
theorem Tryz.cellsCol : Tryz.prog.cellsOf 61 = 7 := by kernel_rfl
theorem Tryz.cellsInts : Tryz.prog.cellsOf 23 = 1 := by kernel_rfl
theorem Tryz.cellsCols : Tryz.prog.cellsOf 30 = 1 := by kernel_rfl
theorem Tryz.cellsActs : Tryz.prog.cellsOf 36 = 1 := by kernel_rfl
theorem Tryz.cellsAct : Tryz.prog.cellsOf 63 = 6 := by kernel_rfl
theorem Tryz.cellsCm : Tryz.prog.cellsOf 38 = 3 := by kernel_rfl
theorem trod_struct5c {H : Type} {enc : TypeId × Value → H} {P : Program} {w : World} {base : Nat} {spare : Nat → Bool} {held : Bool} {t : TypeId} {f0 f1 f2 f3 f4 : Field} {fuel : Nat} {cs : List Value} {x : DataW H × List MemPlace} (ht : P.underlying t = some (.struct #[f0, f1, f2, f3, f4])) (h : DataW.trod enc P w base spare held fuel t cs = some x) :
    ∃ y0 y1 y2 y3 y4 n, cs.length = P.cellsOf t ∧ DataW.trod enc P w base spare held n f0.type ((cs.drop f0.offset).take (P.cellsOf f0.type)) = some y0 ∧
      DataW.trod enc P w base spare held n f1.type ((cs.drop f1.offset).take (P.cellsOf f1.type)) = some y1 ∧ DataW.trod enc P w base spare held n f2.type ((cs.drop f2.offset).take (P.cellsOf f2.type)) = some y2 ∧
      DataW.trod enc P w base spare held n f3.type ((cs.drop f3.offset).take (P.cellsOf f3.type)) = some y3 ∧ DataW.trod enc P w base spare held n f4.type ((cs.drop f4.offset).take (P.cellsOf f4.type)) = some y4 := by
  obtain ⟨xs, n, _, rfl, hl, hlen, hf⟩ := DataW.trod_struct ht h
  match xs, hlen with
  | [y0, y1, y2, y3, y4], _ => exact ⟨y0, y1, y2, y3, y4, n, hl, by simpa using hf 0 f0 rfl, by simpa using hf 1 f1 rfl, by simpa using hf 2 f2 rfl, by simpa using hf 3 f3 rfl, by simpa using hf 4 f4 rfl⟩
theorem trod_struct6c {H : Type} {enc : TypeId × Value → H} {P : Program} {w : World} {base : Nat} {spare : Nat → Bool} {held : Bool} {t : TypeId} {f0 f1 f2 f3 f4 f5 : Field} {fuel : Nat} {cs : List Value} {x : DataW H × List MemPlace} (ht : P.underlying t = some (.struct #[f0, f1, f2, f3, f4, f5])) (h : DataW.trod enc P w base spare held fuel t cs = some x) :
    ∃ y0 y1 y2 y3 y4 y5 n, cs.length = P.cellsOf t ∧ DataW.trod enc P w base spare held n f0.type ((cs.drop f0.offset).take (P.cellsOf f0.type)) = some y0 ∧
      DataW.trod enc P w base spare held n f1.type ((cs.drop f1.offset).take (P.cellsOf f1.type)) = some y1 ∧ DataW.trod enc P w base spare held n f2.type ((cs.drop f2.offset).take (P.cellsOf f2.type)) = some y2 ∧
      DataW.trod enc P w base spare held n f3.type ((cs.drop f3.offset).take (P.cellsOf f3.type)) = some y3 ∧ DataW.trod enc P w base spare held n f4.type ((cs.drop f4.offset).take (P.cellsOf f4.type)) = some y4 ∧
      DataW.trod enc P w base spare held n f5.type ((cs.drop f5.offset).take (P.cellsOf f5.type)) = some y5 := by
  obtain ⟨xs, n, _, rfl, hl, hlen, hf⟩ := DataW.trod_struct ht h
  match xs, hlen with
  | [y0, y1, y2, y3, y4, y5], _ => exact ⟨y0, y1, y2, y3, y4, y5, n, hl, by simpa using hf 0 f0 rfl, by simpa using hf 1 f1 rfl, by simpa using hf 2 f2 rfl, by simpa using hf 3 f3 rfl, by simpa using hf 4 f4 rfl, by simpa using hf 5 f5 rfl⟩
def ColI (p : CG) : Prop := i64 p.id ∧ i64 p.kind ∧ i64 p.d.num
/-- an action in memory -/
structure ActI (w : World) (a : AN) (v : AV) : Prop where
  q : a.mask.length = v.qn
  qz : v.qa = none → v.qc = 0
  qr : RI w v.qa a.mask
  r : a.cols.length = v.rn
  rc : v.rn ≤ v.rc
  rr : RC w v.ra a.cols
  qi : ∀ x ∈ a.mask, i64 x
  ci : ∀ c ∈ a.cols, ColI c
  ri : i64 a.rows
  ni : i64 a.next
/-- numbers of a commit are numbers of 64 bits -/
def CmI (c : CM) : Prop := ∀ a v, (a, v) ∈ c.acts → (∀ x ∈ a.mask, i64 x) ∧ (∀ c ∈ a.cols, ColI c) ∧ i64 a.rows ∧ i64 a.next
/-- the cells of elements that lie one behind the other at a -/
theorem cells_at {w : World} {a : Addr} {α : Type} {l : List α} {size : Nat} {cells : α → List Value} (h0 : ∀ x, (cells x)[0]? ≠ none) (hq : ∀ i x, l[i]? = some x → ∀ j u, (cells x)[j]? = some u → w.cell? (a.add (i * size + j)) = some u) :
    ∀ i x, l[i]? = some x → ∃ b o : Nat, a = ⟨b, o, none⟩ ∧ ∀ j u, (cells x)[j]? = some u → w.cell? ⟨b, o + i * size + j, none⟩ = some u := by
  intro i x hx
  have hil : i < l.length := (List.getElem?_eq_some_iff.1 hx).1
  obtain ⟨u0, hu0⟩ := Option.ne_none_iff_exists'.1 (h0 (l[0]'(by omega)))
  have z0 : w.cell? a = some u0 := by
    have := hq 0 (l[0]'(by omega)) (List.getElem?_eq_getElem _) 0 u0 hu0
    simpa [Addr.add] using this
  obtain ⟨b, o, spot⟩ := a
  have hspot : spot = none := by
    have := World.cell?_spot z0
    simpa using this
  subst hspot
  refine ⟨b, o, rfl, fun j u hu => ?_⟩
  have := hq i x hx j u hu
  rw [addr_add] at this
  rw [Nat.add_assoc]
  exact this
section
variable {H : Type} {enc : TypeId × Value → H} {w : World} {base fuel : Nat} {spare : Nat → Bool} {held : Bool}
set_option maxRecDepth 100000 in
theorem colI_cells {c0 c1 c2 c3 c4 c5 c6 : Value} {x : DataW H × List MemPlace} (h : DataW.trod enc Tryz.prog w base spare held fuel 61 [c0, c1, c2, c3, c4, c5, c6] = some x) : ∃ p : CG, (c0 = .int .i64 p.id ∧ c1 = .string p.name ∧ c2 = .int .i64 p.kind ∧ c3 = .bool p.must ∧ c4 = .int .i64 p.d.kind ∧ c5 = .int .i64 p.d.num ∧ c6 = .string p.d.text) ∧ ColI p := by
  obtain ⟨y0, y1, y2, y3, y4, n, hl, h0, h1, h2, h3, h4⟩ := trod_struct5c Tryz.underlying61 h
  simp only [Tryz.cellsInt, Tryz.cellsBool, Tryz.cellsString, Tryz.cellsVal, List.drop_zero, List.drop_succ_cons, List.take_succ_cons, List.take_zero] at h0 h1 h2 h3 h4
  obtain ⟨id, e0, _, w0⟩ := DataW.trod_int Tryz.underlying3 h0
  obtain ⟨nm, e1, _, _⟩ := DataW.trod_string Tryz.underlying9 h1
  obtain ⟨kd, e2, _, w2⟩ := DataW.trod_int Tryz.underlying3 h2
  obtain ⟨mu, e3, _⟩ := DataW.trod_bool Tryz.underlying4 h3
  obtain ⟨z0, z1, z2, n2, _, hl2, g0, g1, g2⟩ := trod_struct3 Tryz.underlying59 h4
  simp only [Tryz.cellsInt, Tryz.cellsInt64, Tryz.cellsString, List.drop_zero, List.drop_succ_cons, List.take_succ_cons, List.take_zero] at g0 g1 g2
  obtain ⟨kind, e4, _, _⟩ := DataW.trod_int Tryz.underlying3 g0
  obtain ⟨num, e5, _, w5⟩ := DataW.trod_int Tryz.underlying2 g1
  obtain ⟨text, e6, _, _⟩ := DataW.trod_string Tryz.underlying9 g2
  simp only [List.cons.injEq, and_true] at e0 e1 e2 e3 e4 e5 e6
  exact ⟨⟨id, nm, kd, mu, ⟨kind, num, text⟩⟩, ⟨e0, e1, e2, e3, e4, e5, e6⟩, i64_wf w0, i64_wf w2, i64_wf w5⟩
def colC (c : CG) : List Value := [.int .i64 c.id, .string c.name, .int .i64 c.kind, .bool c.must, .int .i64 c.d.kind, .int .i64 c.d.num, .string c.d.text]
set_option maxRecDepth 100000 in
theorem colsI_cells {cs : List Value} {x : DataW H × List MemPlace} (h : DataW.trod enc Tryz.prog w base spare held fuel 30 cs = some x) :
    ∃ (l : List CG) (A : Option Addr) (c : Nat), cs = [.slice A l.length c] ∧ RC w A l ∧ l.length ≤ c ∧ ∀ x ∈ l, ColI x := by
  rcases open_slice Tryz.underlying30 h with ⟨hcs, hx⟩ | ⟨a, len, cap, m, n, D, Pl, hcs, hb, hl, hm, hmm, hx, hi⟩
  · subst hcs
    exact ⟨[], none, 0, rfl, fun i x hi => by simp at hi, by simp, fun x h => by cases h⟩
  · subst hcs
    rw [Tryz.cellsCol] at hi
    have hlm : len ≤ m := by rw [hmm]; split <;> omega
    obtain ⟨l, hll, hq⟩ := list_of (Q := fun i (x : CG) => ColI x ∧ ∀ j u, (colC x)[j]? = some u → w.cell? (a.add (i * 7 + j)) = some u) len (fun i hil => by
      obtain ⟨cs', hc, ht⟩ := hi i (by omega)
      obtain ⟨_, hcl, hat⟩ := World.cells?_some hc
      match cs', hcl with
      | [c0, c1, c2, c3, c4, c5, c6], _ =>
        obtain ⟨x, ⟨rfl, rfl, rfl, rfl, rfl, rfl, rfl⟩, hxi⟩ := colI_cells ht
        refine ⟨x, hxi, fun j u hu => ?_⟩
        have hj : j < 7 := by
          have := (List.getElem?_eq_some_iff.1 hu).1
          simpa [colC] using this
        rw [← Go.Deep.add_add, hat j hj]
        exact hu)
    refine ⟨l, some a, cap, by rw [hll], fun i x hx' => ?_, by rw [hll]; exact hl, fun x hx' => ?_⟩
    · obtain ⟨b, o, rfl, q⟩ := cells_at (cells := colC) (size := 7) (fun x => by simp [colC]) (fun i x hx => (hq i x hx).2) i x hx'
      exact ⟨b, o, rfl, q 0 _ rfl, q 1 _ rfl, q 2 _ rfl, q 3 _ rfl, q 4 _ rfl, q 5 _ rfl, q 6 _ rfl⟩
    · obtain ⟨i, hi'⟩ := List.getElem?_of_mem hx'
      exact (hq i x hi').1
set_option maxRecDepth 100000 in
theorem intsI_cells {cs : List Value} {x : DataW H × List MemPlace} (h : DataW.trod enc Tryz.prog w base spare held fuel 23 cs = some x) : ∃ (l : List Int) (A : Option Addr) (c : Nat), cs = [.slice A l.length c] ∧ RI w A l ∧ (A = none → c = 0) ∧ ∀ x ∈ l, i64 x := by
  rcases open_slice Tryz.underlying23 h with ⟨rfl, hx⟩ | ⟨a, len, cap, m, n, D, Pl, rfl, hb, hl, hm, hmm, hx, hi⟩
  · exact ⟨[], none, 0, rfl, (fun i x hi => by simp at hi), (fun _ => rfl), fun x h => by cases h⟩
  · rw [Tryz.cellsInt] at hi
    have hlm : len ≤ m := by rw [hmm]; split <;> omega
    obtain ⟨l, hll, hq⟩ := list_of (Q := fun i (x : Int) => i64 x ∧ ∀ j u, [Value.int .i64 x][j]? = some u → w.cell? (a.add (i * 1 + j)) = some u) len (fun i hil => by
      obtain ⟨cs', hc, ht⟩ := hi i (by omega)
      obtain ⟨x, e0, _, wx⟩ := DataW.trod_int Tryz.underlying3 ht
      subst e0
      obtain ⟨_, hcl, hat⟩ := World.cells?_some hc
      refine ⟨x, i64_wf wx, fun j u hu => ?_⟩
      have hj : j < 1 := by
        have := (List.getElem?_eq_some_iff.1 hu).1
        simpa using this
      rw [← Go.Deep.add_add, hat j hj]
      exact hu)
    refine ⟨l, some a, cap, by rw [hll], fun i x hx' => ?_, (fun e => by cases e), fun x hx' => ?_⟩
    · obtain ⟨b, o, rfl, q⟩ := cells_at (cells := fun x => [Value.int .i64 x]) (size := 1) (fun x => by simp) (fun i x hx => (hq i x hx).2) i x hx'
      refine ⟨b, o, rfl, ?_⟩
      have := q 0 _ rfl
      simpa using this
    · obtain ⟨i, hi'⟩ := List.getElem?_of_mem hx'
      exact (hq i x hi').1
def actC (a : AN) (v : AV) : List Value := [.int .i64 a.kind, .string a.path, .int .i64 a.rows, .slice v.qa v.qn v.qc, .slice v.ra v.rn v.rc, .int .i64 a.next]
set_option maxRecDepth 100000 in
theorem act_cells {c0 c1 c2 c3 c4 c5 : Value} {x : DataW H × List MemPlace} (h : DataW.trod enc Tryz.prog w base spare held fuel 63 [c0, c1, c2, c3, c4, c5] = some x) :
    ∃ (a : AN) (v : AV), [c0, c1, c2, c3, c4, c5] = actC a v ∧ ActI w a v := by
  obtain ⟨y0, y1, y2, y3, y4, y5, n, hl, h0, h1, h2, h3, h4, h5⟩ := trod_struct6c Tryz.underlying63 h
  simp only [Tryz.cellsInt, Tryz.cellsString, Tryz.cellsInts, Tryz.cellsCols, List.drop_zero, List.drop_succ_cons, List.take_succ_cons, List.take_zero] at h0 h1 h2 h3 h4 h5
  obtain ⟨kind, e0, _, _⟩ := DataW.trod_int Tryz.underlying3 h0
  obtain ⟨path, e1, _, _⟩ := DataW.trod_string Tryz.underlying9 h1
  obtain ⟨rows, e2, _, w2⟩ := DataW.trod_int Tryz.underlying3 h2
  obtain ⟨lq, Aq, cq, e3, hq, hqz, hqi⟩ := intsI_cells h3
  obtain ⟨lr, Ar, cr, e4, hr, hrc, hri⟩ := colsI_cells h4
  obtain ⟨next, e5, _, w5⟩ := DataW.trod_int Tryz.underlying3 h5
  simp only [List.cons.injEq, and_true] at e0 e1 e2 e3 e4 e5
  subst e0 e1 e2 e3 e4 e5
  exact ⟨⟨kind, path, rows, lq, lr, next⟩, ⟨Aq, lq.length, cq, Ar, lr.length, cr⟩, rfl, rfl, hqz, hq, rfl, hrc, hr, hqi, hri, i64_wf w2, i64_wf w5⟩
set_option maxRecDepth 100000 in
theorem acts_cells {cs : List Value} {x : DataW H × List MemPlace} (h : DataW.trod enc Tryz.prog w base spare held fuel 36 cs = some x) :
    ∃ (l : List (AN × AV)) (A : Option Addr) (c : Nat), cs = [.slice A l.length c] ∧ RA w A l ∧ ∀ a v, (a, v) ∈ l → ActI w a v := by
  rcases open_slice Tryz.underlying36 h with ⟨hcs, hx⟩ | ⟨a, len, cap, m, n, D, Pl, hcs, hb, hl, hm, hmm, hx, hi⟩
  · subst hcs
    exact ⟨[], none, 0, rfl, fun i x v hi => by simp at hi, fun x v h => by cases h⟩
  · subst hcs
    rw [Tryz.cellsAct] at hi
    have hlm : len ≤ m := by rw [hmm]; split <;> omega
    obtain ⟨l, hll, hq⟩ := list_of (Q := fun i (x : AN × AV) => ActI w x.1 x.2 ∧ ∀ j u, (actC x.1 x.2)[j]? = some u → w.cell? (a.add (i * 6 + j)) = some u) len (fun i hil => by
      obtain ⟨cs', hc, ht⟩ := hi i (by omega)
      obtain ⟨_, hcl, hat⟩ := World.cells?_some hc
      match cs', hcl with
      | [c0, c1, c2, c3, c4, c5], _ =>
        obtain ⟨p, v, he, hp⟩ := act_cells ht
        refine ⟨(p, v), hp, fun j u hu => ?_⟩
        have hj : j < 6 := by
          have := (List.getElem?_eq_some_iff.1 hu).1
          simpa [actC] using this
        rw [← Go.Deep.add_add, hat j hj, he]
        exact hu)
    refine ⟨l, some a, cap, by rw [hll], fun i p v hx' => ?_, fun p v hx' => ?_⟩
    · obtain ⟨b, o, rfl, q⟩ := cells_at (cells := fun (x : AN × AV) => actC x.1 x.2) (size := 6) (fun x => by simp [actC]) (fun i x hx => (hq i x hx).2) i (p, v) hx'
      exact ⟨b, o, rfl, q 0 _ rfl, q 1 _ rfl, q 2 _ rfl, q 3 _ rfl, q 4 _ rfl, q 5 _ rfl⟩
    · obtain ⟨i, hi'⟩ := List.getElem?_of_mem hx'
      exact (hq i (p, v) hi').1
theorem cmAt_of {tx : ByteArray} {rd : Bool} {l : List (AN × AV)} {A : Option Addr} {c : Nat} (hr : RA w A l) (hl : ∀ a v, (a, v) ∈ l → ActI w a v) : CmAt w ⟨tx, rd, l, A, l.length, c⟩ ∧ CmI ⟨tx, rd, l, A, l.length, c⟩ :=
  ⟨⟨rfl, hr, fun a v hm => by have h := hl a v hm; exact ⟨h.q, h.qz, h.qr, h.r, h.rc, h.rr⟩⟩, fun a v hm => by have h := hl a v hm; exact ⟨h.qi, h.ci, h.ri, h.ni⟩⟩
set_option maxRecDepth 100000 in
theorem cm_cells {c0 c1 c2 : Value} {x : DataW H × List MemPlace} (h : DataW.trod enc Tryz.prog w base spare held fuel 38 [c0, c1, c2] = some x) :
    ∃ c : CM, [c0, c1, c2] = [.string c.tx, .bool c.rd, .slice c.a c.n c.cap] ∧ CmAt w c ∧ CmI c := by
  obtain ⟨y0, y1, y2, n, _, hl, h0, h1, h2⟩ := trod_struct3 Tryz.underlying38 h
  simp only [Tryz.cellsBool, Tryz.cellsString, Tryz.cellsActs, List.drop_zero, List.drop_succ_cons, List.take_succ_cons, List.take_zero] at h0 h1 h2
  obtain ⟨tx, e0, _, _⟩ := DataW.trod_string Tryz.underlying9 h0
  obtain ⟨rd, e1, _⟩ := DataW.trod_bool Tryz.underlying4 h1
  obtain ⟨l, A, c, e2, hr, hi⟩ := acts_cells h2
  simp only [List.cons.injEq, and_true] at e0 e1 e2
  subst e0 e1 e2
  exact ⟨⟨tx, rd, l, A, l.length, c⟩, rfl, cmAt_of hr hi⟩
end
end Go.Proofs.YtlgidjanmaijaaaGreatDoor

/- Arguments that are turns of who writes: what their cells hold. -/
namespace Go.Proofs.YtlgidjanmaijaaaGreatDoor
set_option linter.unusedSimpArgs false
set_option linter.unusedVariables false
open Go.RowKit
set_option linter.all false
open Go.ChangeShapes Go.WideShapes Go.ChangeAt Go.Joins Go.Deep
theorem Tryz.cellsTurn : Tryz.prog.cellsOf 40 = 5 := by kernel_rfl
/-- a turn -/
structure TU where
  sees : Bool
  who : Int
  c : CM
abbrev tuC (x : TU) : List Value := [.bool x.sees, .int .i64 x.who, .string x.c.tx, .bool x.c.rd, .slice x.c.a x.c.n x.c.cap]
def RT (w : World) (A : Option Addr) (l : List TU) : Prop := ∀ (k : Nat) (x : TU), l[k]? = some x → ∃ b o : Nat, A = some ⟨b, o, none⟩ ∧ w.cell? ⟨b, o + k * 5, none⟩ = some (.bool x.sees) ∧ w.cell? ⟨b, o + k * 5 + 1, none⟩ = some (.int .i64 x.who) ∧ w.cell? ⟨b, o + k * 5 + 2, none⟩ = some (.string x.c.tx) ∧ w.cell? ⟨b, o + k * 5 + 3, none⟩ = some (.bool x.c.rd) ∧ w.cell? ⟨b, o + k * 5 + 4, none⟩ = some (.slice x.c.a x.c.n x.c.cap) ∧ CmAt w x.c
section
variable {H : Type} {enc : TypeId × Value → H} {w : World} {base fuel : Nat} {spare : Nat → Bool} {held : Bool}
set_option maxRecDepth 100000 in
theorem turn_cells {c0 c1 c2 c3 c4 : Value} {x : DataW H × List MemPlace} (h : DataW.trod enc Tryz.prog w base spare held fuel 40 [c0, c1, c2, c3, c4] = some x) :
    ∃ y : TU, [c0, c1, c2, c3, c4] = tuC y ∧ CmAt w y.c ∧ CmI y.c := by
  obtain ⟨y0, y1, y2, n, _, hl, h0, h1, h2⟩ := trod_struct3 Tryz.underlying40 h
  simp only [Tryz.cellsBool, Tryz.cellsInt, Tryz.cellsCm, List.drop_zero, List.drop_succ_cons, List.take_succ_cons, List.take_zero] at h0 h1 h2
  obtain ⟨se, e0, _⟩ := DataW.trod_bool Tryz.underlying4 h0
  obtain ⟨k, e1, _, _⟩ := DataW.trod_int Tryz.underlying3 h1
  obtain ⟨c, e2, hc, hi⟩ := cm_cells h2
  simp only [List.cons.injEq, and_true] at e0 e1 e2
  obtain ⟨e3, e4, e5⟩ := e2
  subst e0 e1 e3 e4 e5
  exact ⟨⟨se, k, c⟩, rfl, hc, hi⟩
end
set_option maxRecDepth 100000 in
/-- turns that come in -/
theorem open_turns {H : Type} {enc : TypeId × Value → H} {w : World} {base b0 : Nat} {r : Reach} {v : Value} {d : DataW H} {p : List MemPlace}
    (hv : Value.okWide Tryz.prog w r b0 22 v) (h : DataW.Trod enc Tryz.prog w base (fun _ => true) true 22 v d p) :
    ∃ (l : List TU) (A : Option Addr) (c : Nat), v = .slice A l.length c ∧ RT w A l ∧ ∀ x ∈ l, CmI x.c := by
  obtain ⟨a0, len, cap, rfl⟩ := okWide_slice Tryz.underlying22 hv
  obtain ⟨fuel, hf⟩ := h
  rcases open_slice Tryz.underlying22 hf with ⟨hcs, hx⟩ | ⟨a, len', cap', m, n, D, Pl, hcs, hb, hl, hm, hmm, hx, hi⟩
  · simp [Value.cells] at hcs
    obtain ⟨rfl, rfl, rfl⟩ := hcs
    exact ⟨[], none, 0, rfl, fun i x hi => by simp at hi, fun x h => by cases h⟩
  · simp [Value.cells] at hcs
    obtain ⟨rfl, rfl, rfl⟩ := hcs
    rw [Tryz.cellsTurn] at hi
    have hlm : len ≤ m := by rw [hmm]; split <;> omega
    obtain ⟨l, hll, hq⟩ := list_of (Q := fun i (x : TU) => (CmAt w x.c ∧ CmI x.c) ∧ ∀ j u, (tuC x)[j]? = some u → w.cell? (a.add (i * 5 + j)) = some u) len (fun i hil => by
      obtain ⟨cs', hc, ht⟩ := hi i (by omega)
      obtain ⟨_, hcl, hat⟩ := World.cells?_some hc
      match cs', hcl with
      | [c0, c1, c2, c3, c4], _ =>
        obtain ⟨x, he, hx1⟩ := turn_cells ht
        refine ⟨x, hx1, fun j u hu => ?_⟩
        have hj : j < 5 := by
          have := (List.getElem?_eq_some_iff.1 hu).1
          simpa using this
        rw [← Go.Deep.add_add, hat j hj, he]
        exact hu)
    refine ⟨l, some a, cap, by rw [hll], fun i x hx' => ?_, fun x hx' => ?_⟩
    · obtain ⟨b, o, rfl, q⟩ := cells_at (cells := fun (x : TU) => tuC x) (size := 5) (fun x => by simp) (fun i x hx => (hq i x hx).2) i x hx'
      exact ⟨b, o, rfl, q 0 _ rfl, q 1 _ rfl, q 2 _ rfl, q 3 _ rfl, q 4 _ rfl, (hq i x hx').1.1⟩
    · obtain ⟨i, hi'⟩ := List.getElem?_of_mem hx'
      exact (hq i x hi').1.2
end Go.Proofs.YtlgidjanmaijaaaGreatDoor
