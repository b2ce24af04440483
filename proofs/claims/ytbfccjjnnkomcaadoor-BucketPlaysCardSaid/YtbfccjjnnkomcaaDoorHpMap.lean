/- a map that the call owns, in the walk. -/
import Derived.Test.YtbfccjjnnkomcaaDoorHpDel
import Derived.Maps.OwnOps
import Derived.Maps.OwnSet
import Derived.Maps.Views
import Derived.Maps.StringElems
import Derived.Maps.RangeWalk
import Derived.Maps.Ext
namespace Go.Proofs.YtbfccjjnnkomcaaDoor
set_option linter.all false
open Go.RowKit
open Go.Maps (Keyed)
-- the map in memory
/-- the object of a map that reads as D -/
def MFit (P : Program) (k e : TypeId) (n : Nat) (D : DataW Unit) (o : Obj) : Prop := ∃ es clock, o = .map es clock ∧ Go.WideElems.Fit P k (plainElem (H := Unit) P e) es clock ∧ es.size ≤ n ∧ D = .map ((es.toList.map (Go.WideElems.rg P k (plainElem (H := Unit) P e))).foldr DataW.insert [])
section
variable {P : Program} {B : Nat} {w0 w : World} {L : List Item} {g n : Nat} {o : Obj} {k e : TypeId} {D : DataW Unit}
theorem Hp.owns (h : Hp B w0 w (.ob g o :: L)) (hm : MFit P k e n D o) : w.ownsMap P k (plainElem (H := Unit) P e) g n D := by
  obtain ⟨es, clock, rfl, h1, h2, h3⟩ := hm
  exact ⟨es, clock, h.head.2, h1, h2, h3⟩
theorem Hp.mapTurn {w' : World} {n' : Nat} {D' : DataW Unit} (h : Hp B w0 w (.ob g o :: L)) (hg : w.grownBy w' (some g)) (hm : w'.ownsMap P k (plainElem (H := Unit) P e) g n' D') : ∃ o', MFit P k e n' D' o' ∧ Hp B w0 w' (.ob g o' :: L) := by
  obtain ⟨es, clock, h0, h1, h2, h3⟩ := hm
  exact ⟨.map es clock, ⟨es, clock, rfl, h1, h2, h3⟩, h.turn hg (.inr rfl) ⟨h.head.1, h0⟩ (.inl rfl)⟩
end
section
variable {P : Program} {ops : Array Oper} {Q : Exit → Act → World → Prop} {B : Nat} {w0 w : World} {L : List Item} {g n : Nat} {ob : Obj} {k e : TypeId} {D : DataW Unit} {o : Oper} {rest : List Oper} {a : Act}
theorem atKey_none {D : DataW Unit} {x : Lit} (h : Maps.has D x = false) (z : DataW Unit) : D.atKey x z = z := Maps.atKey_of_not_has h z
theorem wpList_makeMap_hp {t : TypeId} (hgd : o.guard = none) (ho : o.op = .makeMap t none) (h : Hp B w0 w L)
    (kk : ∀ g w' ob, MFit P k e 0 (.map []) ob → Hp B w0 w' (.ob g ob :: L) → wpList P ops Q rest (a.put o.dst (.map (some g))) w') : wpList P ops Q (o :: rest) a w := by
  refine wpList_plain hgd fun K hK => ?_
  obtain ⟨es, clock, h0, h1, h2, h3⟩ := World.ownsMap_made w P k (plainElem (H := Unit) P e)
  have hr : (Instr.makeMap t none).run P w = .ok (.map (some w.heap.size)) (w.alloc (.map #[] 0)) := rfl
  unfold Oper.wp execOp
  simp only [ho, Option.map_none, Sem.run_bind, Sem.run_pure, Result.andThen_ok, hr]
  exact hK _ _ (kk _ _ _ ⟨es, clock, rfl, h1, h2, h3⟩ ((h.old _).cons (x := .ob w.heap.size (.map es clock)) ⟨h.base, h0⟩ (h.fresh rfl (Nat.le_refl _))))
theorem wpList_mapPut_hp {t : TypeId} (hgd : o.guard = none) (m x v : Operand) (hop : o.op = .mapUpdate t m x v ∨ o.op = .insert t m x v) (Ky : Keyed P k) (ht : P.underlying t = some (.map k e)) (i : Nat) (hf : MFit P k e n D ob) (h : Hp B w0 w L) (hi : L[i]? = some (.ob g ob)) (hm : a.eval m = .map (some g)) (key val : Value) (kl : Lit) (hx : a.eval x = key) (hv : a.eval v = val) (hkey : keyOf P k key = some kl) (d : DataW Unit) (hval : plainElem P e val = some (d, [])) (hn : n < maxLen)
    (kk : ∀ ob' w', MFit P k e (n + 1) (D.put kl d) ob' → Hp B w0 w' (.ob g ob' :: L.eraseIdx i) → wpList P ops Q rest (a.put o.dst undef) w') : wpList P ops Q (o :: rest) a w := by
  refine wpList_plain hgd fun K hK => ?_
  have h' := h.front i hi
  obtain ⟨w', hrun, r1, r2⟩ := (h'.owns hf).update Ky ht hn hkey hval
  obtain ⟨ob', h1, h2⟩ := h'.mapTurn r2 r1
  unfold Oper.wp
  rcases hop with hop | hop
  · simp [execOp, hop, hm, hx, hv, hrun, Result.andThen]
    exact hK _ _ (kk _ _ h1 h2)
  · simp [execOp, hop, hm, hx, hv, hrun, Result.andThen]
    exact hK _ _ (kk _ _ h1 h2)
theorem wpList_lookup_hp {t : TypeId} {q : IntKind} (hgd : o.guard = none) (m x : Operand) (hop : o.op = .lookup t m x true) (Ky : Keyed P k) (ht : P.underlying t = some (.map k e)) (he : P.underlying e = some (.int q)) (hz : (zeroValue e).run P w = .ok (.int q 0) w) (i : Nat) (hf : MFit P k e n D ob) (h : Hp B w0 w L) (hi : L[i]? = some (.ob g ob)) (hm : a.eval m = .map (some g)) (key : Value) (kl : Lit) (hx : a.eval x = key) (hkey : keyOf P k key = some kl)
    (c : Int) (b : Bool) (hb : Maps.has D kl = b) (hc : D.atKey kl (.lit (.int q 0)) = .lit (.int q c)) (kk : wpList P ops Q rest (a.put o.dst (.tuple #[.int q c, .bool b])) w) : wpList P ops Q (o :: rest) a w := by
  refine wpList_plain hgd fun K hK => ?_
  have hw0 : (Lit.int q 0).wf = true := by cases q <;> decide
  obtain ⟨v, ps, hrun, hv⟩ := ((h.front i hi).owns hf).look_ok Ky ht hz (plainElem_int he hw0) hkey
  obtain ⟨c', rfl, hc', _⟩ := plainElem_int_inv he hv
  have : c' = c := by
    have := congrArg Prod.fst hc'
    rw [hc] at this
    simpa using this.symm
  subst this
  rw [hb] at hrun
  unfold Oper.wp
  simp [execOp, hop, hm, hx, hrun, Result.andThen]
  exact hK _ _ kk
end
end Go.Proofs.YtbfccjjnnkomcaaDoor
