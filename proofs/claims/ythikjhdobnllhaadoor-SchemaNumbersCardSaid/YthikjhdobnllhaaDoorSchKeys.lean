/- kinds by numbers: the map of SchemaNumbers. -/
import Derived.Test.YthikjhdobnllhaaDoorSchLaw
import Derived.Maps.Own
import Derived.Maps.OwnSet
import Derived.Maps.Views
namespace Go.Proofs.YthikjhdobnllhaaDoor
set_option linter.unusedSimpArgs false
set_option linter.unusedVariables false
open Go.RowKit
open Go.Maps (Keyed)
abbrev kLit (id : Int) : Lit := .int .i64 id
abbrev zLit : DataW Unit := .lit (.int .i64 0)
abbrev vLit (n : Int) : DataW Unit := .lit (.int .i64 n)
/-- the map knows the columns' kinds, and no number that is yet to come -/
structure KInv (D : DataW Unit) (l : List CG) (next : Int) : Prop where
  isMap : Maps.IsMap D
  known : ∀ c ∈ l, Maps.has D (kLit c.id) = true ∧ D.atKey (kLit c.id) zLit = vLit c.kind
  later : ∀ id, next ≤ id → Maps.has D (kLit id) = false
/-- .. up to the k-th column -/
structure KStep (D : DataW Unit) (l : List CG) (next : Int) (k : Nat) : Prop where
  isMap : Maps.IsMap D
  upto : ∀ i c, i < k → l[i]? = some c → Maps.has D (kLit c.id) = true
  same : ∀ c ∈ l, Maps.has D (kLit c.id) = true → D.atKey (kLit c.id) zLit = vLit c.kind
  new : ∀ c ∈ l, Maps.has D (kLit c.id) = false → c.id = next - 1
  later : ∀ id, next ≤ id → Maps.has D (kLit id) = false
theorem kstart {D : DataW Unit} {l0 l : List CG} {n0 next : Int} (h : KInv D l0 n0) (hn : n0 ≤ next) (hl : ∀ c ∈ l, (∃ d ∈ l0, c.id = d.id ∧ c.kind = d.kind) ∨ (c.id = next - 1 ∧ n0 ≤ c.id)) : KStep D l next 0 where
  isMap := h.isMap
  upto := fun i c hi => by omega
  same := fun c hc hh => by
    rcases hl c hc with ⟨d, hd, e1, e2⟩ | ⟨e1, e2⟩
    · rw [e1, e2]; exact (h.known d hd).2
    · rw [h.later c.id e2] at hh; cases hh
  new := fun c hc hh => by
    rcases hl c hc with ⟨d, hd, e1, e2⟩ | ⟨e1, e2⟩
    · rw [e1, (h.known d hd).1] at hh; cases hh
    · exact e1
  later := fun id hid => h.later id (by omega)
theorem same_id {l : List CG} {next : Int} (h : Inv l next) {c d : CG} (hc : c ∈ l) (hd : d ∈ l) (e : c.id = d.id) : c = d := by
  obtain ⟨i, hi⟩ := List.getElem?_of_mem hc
  obtain ⟨j, hj⟩ := List.getElem?_of_mem hd
  rcases Nat.lt_trichotomy i j with hlt | rfl | hlt
  · have := h.apart i j c d hlt hi hj
    unfold clashC at this
    rw [e] at this
    simp at this
  · rw [hi] at hj; cases hj; rfl
  · have := h.apart j i d c hlt hj hi
    unfold clashC at this
    rw [e] at this
    simp at this
theorem kstep {D : DataW Unit} {l : List CG} {next : Int} {k : Nat} {c : CG} (h : KStep D l next k) (hI : Inv l next) (hc : l[k]? = some c) : KStep (D.put (kLit c.id) (vLit c.kind)) l next (k + 1) := by
  have hm := List.mem_of_getElem? hc
  have hself : ∀ d ∈ l, d.id = c.id → Maps.has (D.put (kLit c.id) (vLit c.kind)) (kLit d.id) = true ∧ (D.put (kLit c.id) (vLit c.kind)).atKey (kLit d.id) zLit = vLit d.kind := fun d hd e => by
    obtain rfl := same_id hI hd hm e
    exact ⟨Maps.has_put_same (k := kLit d.id) h.isMap trivial _, Maps.atKey_put_same (k := kLit d.id) h.isMap trivial _ _⟩
  have hoth : ∀ id, id ≠ c.id → Maps.has (D.put (kLit c.id) (vLit c.kind)) (kLit id) = Maps.has D (kLit id) ∧ ∀ z, (D.put (kLit c.id) (vLit c.kind)).atKey (kLit id) z = D.atKey (kLit id) z := fun id hne =>
    ⟨Maps.has_put_other (by intro e; cases e; exact hne rfl) _, fun z => Maps.atKey_put_other (by intro e; cases e; exact hne rfl) _ z⟩
  refine ⟨h.isMap.put _ _, fun i d hi hd => ?_, fun d hd hh => ?_, fun d hd hh => ?_, fun id hid => ?_⟩
  · by_cases e : d.id = c.id
    · exact (hself d (List.mem_of_getElem? hd) e).1
    · rw [(hoth _ e).1]
      by_cases hik : i < k
      · exact h.upto i d hik hd
      · obtain rfl : i = k := by omega
        rw [hc] at hd; cases hd; exact absurd rfl e
  · by_cases e : d.id = c.id
    · exact (hself d hd e).2
    · rw [(hoth _ e).1] at hh
      rw [(hoth _ e).2]
      exact h.same d hd hh
  · by_cases e : d.id = c.id
    · rw [(hself d hd e).1] at hh; cases hh
    · rw [(hoth _ e).1] at hh
      exact h.new d hd hh
  · have := hI.idlt c hm
    rw [(hoth id (by omega)).1]
    exact h.later id hid
theorem kend {D : DataW Unit} {l : List CG} {next : Int} (h : KStep D l next l.length) : KInv D l next where
  isMap := h.isMap
  known := fun c hc => by
    obtain ⟨i, hi⟩ := List.getElem?_of_mem hc
    have hh := h.upto i c (List.getElem?_eq_some_iff.1 hi).1 hi
    exact ⟨hh, h.same c hc hh⟩
  later := h.later
theorem kfirst : KInv ((DataW.map []).put (kLit 1) (vLit 1)) [⟨1, ⟨#[102, 105, 114, 115, 116]⟩, 1, false, ⟨0, 0, ⟨#[]⟩⟩⟩] 2 where
  isMap := Maps.isMap_empty.put _ _
  known := fun c hc => by
    simp at hc; subst hc
    exact ⟨Maps.has_put_same (k := kLit 1) Maps.isMap_empty trivial _, Maps.atKey_put_same (k := kLit 1) Maps.isMap_empty trivial _ _⟩
  later := fun id hid => by
    rw [Maps.has_put_other (by intro e; cases e; omega)]
    rfl
-- the map in memory
/-- the object of a map that reads as D -/
def MFit (P : Program) (k e : TypeId) (n : Nat) (D : DataW Unit) (o : Obj) : Prop := ∃ es clock, o = .map es clock ∧ Go.WideElems.Fit P k (plainElem (H := Unit) P e) es clock ∧ es.size ≤ n ∧ D = .map ((es.toList.map (Go.WideElems.rg P k (plainElem (H := Unit) P e))).foldr DataW.insert [])
section
variable {P : Program} {B : Nat} {w0 w : World} {L : List Item} {g n : Nat} {o : Obj} {k e : TypeId} {D : DataW Unit}
theorem Hp.owns (h : Hp B w0 w (.ob g o :: L)) (hm : MFit P k e n D o) : w.ownsMap P k (plainElem (H := Unit) P e) g n D := by
  obtain ⟨es, clock, rfl, h1, h2, h3⟩ := hm
  exact ⟨es, clock, h.head.2, h1, h2, h3⟩
theorem Hp.mapTurn {w' : World} {n' : Nat} {D' : DataW Unit} (h : Hp B w0 w (.ob g o :: L)) (hg : w.grownBy w' (some g)) (hm : w'.ownsMap P k (plainElem (H := Unit) P e) g n' D') : ∃ o', MFit P k e n' D' o' ∧ Hp B w0 w' (.ob g o' :: L) := by
  obtain ⟨es, clock, h0, h1, h2, h3⟩ := hm
  exact ⟨.map es clock, ⟨es, clock, rfl, h1, h2, h3⟩, h.turn hg (.inr rfl) ⟨h.head.1, h0⟩ (.inl rfl)⟩
end
end Go.Proofs.YthikjhdobnllhaaDoor
