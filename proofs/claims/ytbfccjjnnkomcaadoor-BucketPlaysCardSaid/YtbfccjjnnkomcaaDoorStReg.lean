/- A region under St, whether its order is drawn or not: walked once in the order of the text; guards may be open. For any program. -/
import Derived.Test.YtbfccjjnnkomcaaDoorSt
import Derived.Test.YtbfccjjnnkomcaaDoorRegion
namespace Go.Proofs.YtbfccjjnnkomcaaDoor
open Go.RowKit
section
variable {P : Program} {ops : Array Oper} {F : World → Prop} {K : Act → Prop} {o : Oper} {rest : List Oper} {a : Act} {j : Nat} {p b : Bool} {d : Tmp}
theorem wanted_eq (hg : o.guard = some (j, p)) (hd : (ops[j]?).bind (·.dst) = some d) (ht : a.tmps[d]? = some (.bool b)) : Region.wanted o (yielded ops a.tmps) = (b == p) := by
  have hy : yielded ops a.tmps j = some b := by unfold yielded; rw [hd]; simp [ht]
  cases b <;> cases p <;> simp [Region.wanted, hg, hy]
theorem wanted_true (hg : o.guard = some (j, p)) (hd : (ops[j]?).bind (·.dst) = some d) (ht : a.tmps[d]? = some (.bool b)) (hb : b = p) : Region.wanted o (yielded ops a.tmps) = true := by
  rw [wanted_eq hg hd ht]; simp [hb]
theorem wanted_false (hg : o.guard = some (j, p)) (hd : (ops[j]?).bind (·.dst) = some d) (ht : a.tmps[d]? = some (.bool b)) (hb : b = !p) : Region.wanted o (yielded ops a.tmps) = false := by
  rw [wanted_eq hg hd ht]; subst hb; cases p <;> rfl
theorem Fixed.here {l : List Oper} (h : Fixed P ops F K l a) : Fixed P ops F K l a := h
/-- the guard is open: both ways -/
theorem Fixed.guardT (_ : o.guard = some (j, true)) (_ : (ops[j]?).bind (·.dst) = some d) (_ : a.tmps[d]? = some (.bool b)) (h1 : b = true → Fixed P ops F K (o :: rest) a) (h2 : b = false → Fixed P ops F K (o :: rest) a) : Fixed P ops F K (o :: rest) a := by
  cases hb : b
  · exact h2 hb
  · exact h1 hb
theorem Fixed.guardF (_ : o.guard = some (j, false)) (_ : (ops[j]?).bind (·.dst) = some d) (_ : a.tmps[d]? = some (.bool b)) (h1 : b = false → Fixed P ops F K (o :: rest) a) (h2 : b = true → Fixed P ops F K (o :: rest) a) : Fixed P ops F K (o :: rest) a := by
  cases hb : b
  · exact h1 hb
  · exact h2 hb
theorem Fixed.imp {K' : Act → Prop} (hK : ∀ a, K a → K' a) : ∀ (l : List Oper) (a : Act), Fixed P ops F K l a → Fixed P ops F K' l a
  | [], a, h => hK a h
  | _ :: l, _, .inl ⟨hw, v, hs, h⟩ => .inl ⟨hw, v, hs, Fixed.imp hK l _ h⟩
  | _ :: l, _, .inr ⟨hw, h⟩ => .inr ⟨hw, Fixed.imp hK l _ h⟩
theorem wp_region_st {w0 w : World} {L : List Blk} {Q : Exit → Act → World → Prop} {id : Nat} {l : List Oper} {draw : Bool} (hm : P.follows .mixedOrders = true) (hok : fixedOk l.toArray = true)
    (hS : St w0 w L) (h : Fixed P l.toArray (fun W => St w0 W L) (fun a' => ∀ w', St w0 w' L → Q .normal a' w') l a) : (Code.region id l.toArray draw).wp P Q a w :=
  wp_region_fixed (F := fun W => St w0 W L) hm hok (fun _ _ h hx => St.step h hx) hS (Fixed.imp (fun _ hk w' _ hs => hk w' hs) l a h)
end
end Go.Proofs.YtbfccjjnnkomcaaDoor
