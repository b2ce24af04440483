/- Regions under Hp: quiet operations and a chain that turns what the call owns. For any program. -/
import Derived.Test.YtbfccjjnnkomcaaDoorChain
import Derived.Test.YtbfccjjnnkomcaaDoorHp
namespace Go.Proofs.YtbfccjjnnkomcaaDoor
open Go.RowKit
section
variable {P : Program} {ops : Array Oper} {F : World → Prop} {QN : Act → World → Prop} {B : Nat} {w0 : World} {L : List Item} {o : Oper} {rest : List Oper} {a : Act}
theorem Chain.here {l : List Oper} {C : World → Prop} (h : Chain P ops F QN l a C) : Chain P ops F QN l a C := h
theorem Chain.done (h : ∀ w, Hp B w0 w L → QN a w) : Chain P ops F QN [] a (fun W => Hp B w0 W L) := h
theorem Chain.skip (hw : Region.wanted o (yielded ops a.tmps) = false) (h : Chain P ops F QN rest (a.put o.dst undef) (fun W => Hp B w0 W L)) : Chain P ops F QN (o :: rest) a (fun W => Hp B w0 W L) := .inr ⟨hw, h⟩
/-- an operation of the chain that only computes or reads -/
theorem Chain.val {v : Value} (hw : Region.wanted o (yielded ops a.tmps) = true) (hF : ∀ w, Hp B w0 w L → F w) (hr : ∀ w, Hp B w0 w L → (execOp a.eval o).run P w = .ok (.value v) w)
    (h : Chain P ops F QN rest (a.put o.dst v) (fun W => Hp B w0 W L)) : Chain P ops F QN (o :: rest) a (fun W => Hp B w0 W L) := by
  refine .inl ⟨hw, fun w hS => ?_⟩
  unfold Oper.wp
  rw [hr w hS]
  exact ⟨_, hS, fun _ _ h hx => h.step hx, hF, h⟩
/-- an operation of the chain that makes a block -/
theorem Chain.alloc {cs : List Value} {t : TypeId} {f : Nat → Value} (hw : Region.wanted o (yielded ops a.tmps) = true) (hF : ∀ w, Hp B w0 w L → F w) (hr : ∀ w, Hp B w0 w L → (execOp a.eval o).run P w = .ok (.value (f w.heap.size)) (w.alloc (.cells cs.toArray t)))
    (h : ∀ g, Chain P ops F QN rest (a.put o.dst (f g)) (fun W => Hp B w0 W (.blk g cs t :: L))) : Chain P ops F QN (o :: rest) a (fun W => Hp B w0 W L) := by
  refine .inl ⟨hw, fun w hS => ?_⟩
  unfold Oper.wp
  rw [hr w hS]
  exact ⟨fun W => Hp B w0 W (.blk w.heap.size cs t :: L), hS.alloc cs t, fun _ _ h hx => h.step hx, fun W hW => hF W hW.tail, h _⟩
/-- a call of the chain -/
theorem Chain.call {f : FuncId} {args : Array Value} (hw : Region.wanted o (yielded ops a.tmps) = true) (hr : ∀ w, Hp B w0 w L → (execOp a.eval o).run P w = .ok (.enter f args) w)
    (hc : ∀ w, Hp B w0 w L → Calls P f args w fun e w' => ∃ (v : Value) (L' : List Item), e = .returned v ∧ Hp B w0 w' L' ∧ (∀ w, Hp B w0 w L' → F w) ∧ Chain P ops F QN rest (a.put o.dst v) (fun W => Hp B w0 W L')) :
    Chain P ops F QN (o :: rest) a (fun W => Hp B w0 W L) := by
  refine .inl ⟨hw, fun w hS => ?_⟩
  unfold Oper.wp
  rw [hr w hS]
  refine (hc w hS).mono fun e w' ⟨v, L', h1, h2, h3, h4⟩ => ?_
  subst h1
  exact ⟨_, h2, fun _ _ h hx => h.step hx, h3, h4⟩
/-- a store of the chain, or whatever yields nothing and turns what is owned -/
theorem Chain.turn {L' : List Item} (hw : Region.wanted o (yielded ops a.tmps) = true) (hr : ∀ w, Hp B w0 w L → ∃ w', ((execOp a.eval o).run P w = .ok .skip w' ∨ (execOp a.eval o).run P w = .ok (.value undef) w') ∧ Hp B w0 w' L')
    (hF : ∀ w, Hp B w0 w L' → F w) (h : Chain P ops F QN rest (a.put o.dst undef) (fun W => Hp B w0 W L')) : Chain P ops F QN (o :: rest) a (fun W => Hp B w0 W L) := by
  refine .inl ⟨hw, fun w hS => ?_⟩
  obtain ⟨w', hrun, h2⟩ := hr w hS
  unfold Oper.wp
  rcases hrun with hrun | hrun <;> rw [hrun] <;> exact ⟨_, h2, fun _ _ h hx => h.step hx, hF, h⟩
/-- append of a string's bytes, in the chain -/
theorem Chain.appendStr {t u e : TypeId} {n cap : Nat} {A : Option Addr} {xs : List Value} {L0 : List Item} (hE : Elem P t e 1 1) (hz : (P.info? e).bind (·.zero) = some (.int .u8 0)) (hu : P.underlying u = some .string) (hw : Region.wanted o (yielded ops a.tmps) = true) (s x : Operand)
    (ho : o.op = .call { callee := .builtin .append, args := #[s, x], argTypes := #[t, u] }) (i : Nat) (hi : L[i]? = some (.row e 1 A n cap xs)) (hL0 : L.eraseIdx i = L0) (hs : a.eval s = .slice A n cap) (str : ByteArray) (hx : a.eval x = .string str) (hm : n + str.size ≤ 140737488355328)
    (hF : ∀ w, Hp B w0 w L0 → F w) (h : ∀ A' cap', Chain P ops F QN rest (a.put o.dst (.slice A' (n + str.size : Nat) cap')) (fun W => Hp B w0 W (.row e 1 A' (n + str.size) cap' (xs ++ Lib.strCells str) :: L0))) :
    Chain P ops F QN (o :: rest) a (fun W => Hp B w0 W L) := by
  subst hL0
  refine .inl ⟨hw, fun w hS => ?_⟩
  obtain ⟨A', cap', w', hr, h2⟩ := run_append_str_hp (P := P) (ty := o.type) hE hz hu (hS.front i hi) str hm
  unfold Oper.wp execOp
  simp only [ho, resolve, invoke, builtin, Sem.run_bind, Sem.run_pure, Result.andThen_ok, List.map_toArray, List.map_cons, List.map_nil, hs, hx, hr]
  exact ⟨_, h2, fun _ _ h hx => h.step hx, fun W hW => hF W hW.tail, h A' cap'⟩
/-- append of elements that lie at ad, in the chain -/
theorem Chain.append {t e : TypeId} {size bytes n m c cap : Nat} {A : Option Addr} {xs news : List Value} {L0 : List Item} (hE : Elem P t e size bytes) (hw : Region.wanted o (yielded ops a.tmps) = true) (s x : Operand)
    (ho : o.op = .call { callee := .builtin .append, args := #[s, x], argTypes := #[t, t] }) (i : Nat) (hi : L[i]? = some (.row e size A n cap xs)) (hL0 : L.eraseIdx i = L0) (hs : a.eval s = .slice A n cap) (ad : Addr) (hx : a.eval x = .slice (some ad) m c) (hl : news.length = m * size)
    (hnews : ∀ w, Hp B w0 w L → ∀ j u, news[j]? = some u → w.cell? (ad.add j) = some u) (h1 : ∀ u ∈ news, u.oneCell' = true) (hn : (n + m) * bytes ≤ 140737488355328) (hm : n + m ≤ 140737488355328)
    (hF : ∀ w, Hp B w0 w L0 → F w) (h : ∀ A' cap', Chain P ops F QN rest (a.put o.dst (.slice A' (n + m : Nat) cap')) (fun W => Hp B w0 W (.row e size A' (n + m) cap' (xs ++ news) :: L0))) :
    Chain P ops F QN (o :: rest) a (fun W => Hp B w0 W L) := by
  subst hL0
  refine .inl ⟨hw, fun w hS => ?_⟩
  obtain ⟨A', cap', w', hr, h2⟩ := run_append_hp (P := P) (c := c) (ty := o.type) hE (hS.front i hi) ad hl (hnews w hS) h1 hn hm
  unfold Oper.wp execOp
  simp only [ho, resolve, invoke, builtin, Sem.run_bind, Sem.run_pure, Result.andThen_ok, List.map_toArray, List.map_cons, List.map_nil, hs, hx, hr]
  exact ⟨_, h2, fun _ _ h hx => h.step hx, fun W hW => hF W hW.tail, h A' cap'⟩
theorem wp_region_chain_hp {w : World} {Q : Exit → Act → World → Prop} {id : Nat} {l : List Oper} (ms : List Mark) (LF : List Item) (hm : P.follows .mixedOrders = true) (hlen : l.length = ms.length) (hok : chainOk l.toArray (mkOf ms) = true)
    (hS : Hp B w0 w L) (hLF : ∀ w, Hp B w0 w L → Hp B w0 w LF)
    (h : Walk P l.toArray (fun W => Hp B w0 W LF) (fun a' => Chain P l.toArray (fun W => Hp B w0 W LF) (fun a w => Q .normal a w) (chainOf l ms) a' (fun W => Hp B w0 W L)) ms l a) : (Code.region id l.toArray true).wp P Q a w :=
  wp_region_chain ms (fun W => Hp B w0 W LF) hm hlen hok hS (fun _ _ h hx => h.step hx) hLF h
end
end Go.Proofs.YtbfccjjnnkomcaaDoor
