/- Texts joined: Regions under Hp: quiet operations and a chain that turns what the call owns. For any program. errors.As at an Errno: by the way of the guide's ToyasAs. A region of quiet operations and of others that may turn what the call owns, these in every order that is allowed. For any program. As BraidZ: and operations from number z on wait for all quiet ones: they may turn what these read. For any program. copy and make under Hp, for elements of any size. For any program. In place: a row is shrunk, appended to where there is room, cleared behind its end. For any program. A region of quiet operations, of new blocks, and of a tail, under Hp. For any program. slices of strings: what their cells hold. -/
import Derived.Test.YtcpllhjhnfmepaaGreatDoorFW03
import Derived.Test.YtcpllhjhnfmepaaGreatDoorFW02
import Derived.Test.YtcpllhjhnfmepaaGreatDoorProg
import Derived.LaidEql
import Derived.Stop.Asserts
import Derived.RowKitTokens
import Derived.Laws.CopyOwn
import Derived.Deep.DeepAppendRoom
import Derived.Lib.SliceRun
/- Regions under Hp: quiet operations and a chain that turns what the call owns. For any program. -/
namespace Go.Proofs.YtcpllhjhnfmepaaGreatDoor
set_option linter.all false
open Go.RowKit
section
variable {P : Program} {ops : Array Oper} {F : World → Prop} {QN : Act → World → Prop} {B : Nat} {w0 : World} {L : List Item} {o : Oper} {rest : List Oper} {a : Act}
theorem Chain.here {l : List Oper} {C : World → Prop} (h : Chain P ops F QN l a C) : Chain P ops F QN l a C := h
theorem Chain.done (h : ∀ w, Hp B w0 w L → QN a w) : Chain P ops F QN [] a (fun W => Hp B w0 W L) := h
theorem Chain.skip (hw : Region.wanted o (yielded ops a.tmps) = false) (h : Chain P ops F QN rest (a.put o.dst undef) (fun W => Hp B w0 W L)) : Chain P ops F QN (o :: rest) a (fun W => Hp B w0 W L) := .inr ⟨hw, h⟩
/-- an operation of the chain that only computes or reads -/
theorem Chain.val {v : Value} (hw : Region.wanted o (yielded ops a.tmps) = true) (hF : ∀ w, Hp B w0 w L → F w) (hr : ∀ w, Hp B w0 w L → (execOp a.eval o).run P w = .ok (.value v) w)
    (h : Chain P ops F QN rest (a.put o.dst v) (fun W => Hp B w0 W L)) : Chain P ops F QN (o :: rest) a (fun W => Hp B w0 W L) := by
  refine .inl ⟨hw, fun w hS => ?_⟩
  unfold Oper.wp
  rw [hr w hS]
  exact ⟨_, hS, fun _ _ h hx => h.step hx, hF, h⟩
/-- an operation of the chain that makes a block -/
theorem Chain.alloc {cs : List Value} {t : TypeId} {f : Nat → Value} (hw : Region.wanted o (yielded ops a.tmps) = true) (hF : ∀ w, Hp B w0 w L → F w) (hr : ∀ w, Hp B w0 w L → (execOp a.eval o).run P w = .ok (.value (f w.heap.size)) (w.alloc (.cells cs.toArray t)))
    (h : ∀ g, Chain P ops F QN rest (a.put o.dst (f g)) (fun W => Hp B w0 W (.blk g cs t :: L))) : Chain P ops F QN (o :: rest) a (fun W => Hp B w0 W L) := by
  refine .inl ⟨hw, fun w hS => ?_⟩
  unfold Oper.wp
  rw [hr w hS]
  exact ⟨fun W => Hp B w0 W (.blk w.heap.size cs t :: L), hS.alloc cs t, fun _ _ h hx => h.step hx, fun W hW => hF W hW.tail, h _⟩
/-- a call of the chain -/
theorem Chain.call {f : FuncId} {args : Array Value} (hw : Region.wanted o (yielded ops a.tmps) = true) (hr : ∀ w, Hp B w0 w L → (execOp a.eval o).run P w = .ok (.enter f args) w)
    (hc : ∀ w, Hp B w0 w L → Calls P f args w fun e w' => ∃ (v : Value) (L' : List Item), e = .returned v ∧ Hp B w0 w' L' ∧ (∀ w, Hp B w0 w L' → F w) ∧ Chain P ops F QN rest (a.put o.dst v) (fun W => Hp B w0 W L')) :
    Chain P ops F QN (o :: rest) a (fun W => Hp B w0 W L) := by
  refine .inl ⟨hw, fun w hS => ?_⟩
  unfold Oper.wp
  rw [hr w hS]
  refine (hc w hS).mono fun e w' ⟨v, L', h1, h2, h3, h4⟩ => ?_
  subst h1
  exact ⟨_, h2, fun _ _ h hx => h.step hx, h3, h4⟩
/-- a store of the chain, or whatever yields nothing and turns what is owned -/
theorem Chain.turn {L' : List Item} (hw : Region.wanted o (yielded ops a.tmps) = true) (hr : ∀ w, Hp B w0 w L → ∃ w', ((execOp a.eval o).run P w = .ok .skip w' ∨ (execOp a.eval o).run P w = .ok (.value undef) w') ∧ Hp B w0 w' L')
    (hF : ∀ w, Hp B w0 w L' → F w) (h : Chain P ops F QN rest (a.put o.dst undef) (fun W => Hp B w0 W L')) : Chain P ops F QN (o :: rest) a (fun W => Hp B w0 W L) := by
  refine .inl ⟨hw, fun w hS => ?_⟩
  obtain ⟨w', hrun, h2⟩ := hr w hS
  unfold Oper.wp
  rcases hrun with hrun | hrun <;> rw [hrun] <;> exact ⟨_, h2, fun _ _ h hx => h.step hx, hF, h⟩
/-- append of a string's bytes, in the chain -/
theorem Chain.appendStr {t u e : TypeId} {n cap : Nat} {A : Option Addr} {xs : List Value} {L0 : List Item} (hE : Elem P t e 1 1) (hz : (P.info? e).bind (·.zero) = some (.int .u8 0)) (hu : P.underlying u = some .string) (hw : Region.wanted o (yielded ops a.tmps) = true) (s x : Operand)
    (ho : o.op = .call { callee := .builtin .append, args := #[s, x], argTypes := #[t, u] }) (i : Nat) (hi : L[i]? = some (.row e 1 A n cap xs)) (hL0 : L.eraseIdx i = L0) (hs : a.eval s = .slice A n cap) (str : ByteArray) (hx : a.eval x = .string str) (hm : n + str.size ≤ 140737488355328)
    (hF : ∀ w, Hp B w0 w L0 → F w) (h : ∀ A' cap', Chain P ops F QN rest (a.put o.dst (.slice A' (n + str.size : Nat) cap')) (fun W => Hp B w0 W (.row e 1 A' (n + str.size) cap' (xs ++ Lib.strCells str) :: L0))) :
    Chain P ops F QN (o :: rest) a (fun W => Hp B w0 W L) := by
  subst hL0
  refine .inl ⟨hw, fun w hS => ?_⟩
  obtain ⟨A', cap', w', hr, h2⟩ := run_append_str_hp (P := P) (ty := o.type) hE hz hu (hS.front i hi) str hm
  unfold Oper.wp execOp
  simp only [ho, resolve, invoke, builtin, Sem.run_bind, Sem.run_pure, Result.andThen_ok, List.map_toArray, List.map_cons, List.map_nil, hs, hx, hr]
  exact ⟨_, h2, fun _ _ h hx => h.step hx, fun W hW => hF W hW.tail, h A' cap'⟩
/-- append of elements that lie at ad, in the chain -/
theorem Chain.append {t e : TypeId} {size bytes n m c cap : Nat} {A : Option Addr} {xs news : List Value} {L0 : List Item} (hE : Elem P t e size bytes) (hw : Region.wanted o (yielded ops a.tmps) = true) (s x : Operand)
    (ho : o.op = .call { callee := .builtin .append, args := #[s, x], argTypes := #[t, t] }) (i : Nat) (hi : L[i]? = some (.row e size A n cap xs)) (hL0 : L.eraseIdx i = L0) (hs : a.eval s = .slice A n cap) (ad : Addr) (hx : a.eval x = .slice (some ad) m c) (hl : news.length = m * size)
    (hnews : ∀ w, Hp B w0 w L → ∀ j u, news[j]? = some u → w.cell? (ad.add j) = some u) (h1 : ∀ u ∈ news, u.oneCell' = true) (hn : (n + m) * bytes ≤ 140737488355328) (hm : n + m ≤ 140737488355328)
    (hF : ∀ w, Hp B w0 w L0 → F w) (h : ∀ A' cap', Chain P ops F QN rest (a.put o.dst (.slice A' (n + m : Nat) cap')) (fun W => Hp B w0 W (.row e size A' (n + m) cap' (xs ++ news) :: L0))) :
    Chain P ops F QN (o :: rest) a (fun W => Hp B w0 W L) := by
  subst hL0
  refine .inl ⟨hw, fun w hS => ?_⟩
  obtain ⟨A', cap', w', hr, h2⟩ := run_append_hp (P := P) (c := c) (ty := o.type) hE (hS.front i hi) ad hl (hnews w hS) h1 hn hm
  unfold Oper.wp execOp
  simp only [ho, resolve, invoke, builtin, Sem.run_bind, Sem.run_pure, Result.andThen_ok, List.map_toArray, List.map_cons, List.map_nil, hs, hx, hr]
  exact ⟨_, h2, fun _ _ h hx => h.step hx, fun W hW => hF W hW.tail, h A' cap'⟩
theorem wp_region_chain_hp {w : World} {Q : Exit → Act → World → Prop} {id : Nat} {l : List Oper} (ms : List Mark) (LF : List Item) (hm : P.follows .mixedOrders = true) (hlen : l.length = ms.length) (hok : chainOk l.toArray (mkOf ms) = true)
    (hS : Hp B w0 w L) (hLF : ∀ w, Hp B w0 w L → Hp B w0 w LF)
    (h : Walk P l.toArray (fun W => Hp B w0 W LF) (fun a' => Chain P l.toArray (fun W => Hp B w0 W LF) (fun a w => Q .normal a w) (chainOf l ms) a' (fun W => Hp B w0 W L)) ms l a) : (Code.region id l.toArray true).wp P Q a w :=
  wp_region_chain ms (fun W => Hp B w0 W LF) hm hlen hok hS (fun _ _ h hx => h.step hx) hLF h
end
end Go.Proofs.YtcpllhjhnfmepaaGreatDoor

/- errors.As at an Errno: by the way of the guide's ToyasAs. -/
namespace Go.Proofs.YtcpllhjhnfmepaaGreatDoor
set_option linter.all false
set_option linter.unusedSimpArgs false
set_option linter.unusedVariables false
open Go.RowKit
open Go.Extern.Stop Go.Stop Go.Extern

/-! ### CLOSED FACTS ON THE MODEL's ENTRIES FOR internal/reflectlite, at this program's types: 25: *p.E · 27: **p.E · 23: error · 45: reflectlite's rtype · 1: how many package-level variables the dump has -/
theorem as_valueOf27 (t : Addr) (w : World) : (ReflectliteValue.unpack (.iface 133 (.pointer (some t)))).run Tryz.prog w
    = .ok (.agg #[.pointer (some ⟨6, 133, none⟩), .pointer (some ⟨w.heap.size, 0, none⟩), .int .u64 150]) (w.alloc (.cells #[.pointer (some t)] 133)) := by kernel_rfl
theorem as_type27 (a : Addr) (w : World) : (ReflectliteValue.methodAny (ReflectliteValue.valueError "reflectlite.Value.Type" 0) (fun t _ _ _ => ReflectliteType.toType t) #[.agg #[.pointer (some ⟨6, 133, none⟩), .pointer (some a), .int .u64 150]]).run Tryz.prog w
    = .ok (.iface 186 (.agg #[.pointer (some ⟨6, 133, none⟩)])) w := by kernel_rfl
theorem as_methodKind (h : Value) (w : World) : (Go.method 335 186 (.agg #[h]) "Kind").run Tryz.prog w = .ok (140, h) w := by kernel_rfl
theorem as_kind27 (w : World) : ((ReflectliteType.abiMethod fun t => (fun a : Nat => Value.int IntKind.u8 (a : Int)) <$> Rtype.kind t) #[.pointer (some ⟨6, 133, none⟩)]).run Tryz.prog w = .ok (.int .u8 22) w := by kernel_rfl
theorem as_kind25 (w : World) : ((ReflectliteType.abiMethod fun t => (fun a : Nat => Value.int IntKind.u8 (a : Int)) <$> Rtype.kind t) #[.pointer (some ⟨6, 86, none⟩)]).run Tryz.prog w = .ok (.int .u8 2) w := by kernel_rfl

/-! ### THE ENTRIES THAT READ OR WRITE MEMORY: laws with a premise on the cell (after Derived/Lib/ReflectliteSlice.lean's manner: each unfolding a lemma of its own, by rfl) -/
theorem rlm (z : Sem Value) (f : TypeId → Addr → Nat → Nat → Sem Value) (v : Value) :
    ReflectliteValue.method z f #[v] = (do match ← ReflectliteValue.parts v with | none => z | some (t, a, fl) => f t a fl (fl % 32)) := rfl
theorem as_parts27 (a : Addr) (w : World) : (ReflectliteValue.parts (.agg #[.pointer (some ⟨6, 133, none⟩), .pointer (some a), .int .u64 150])).run Tryz.prog w = .ok (some (133, a, 150)) w := by kernel_rfl
/-- (Value).IsNil at the Value of a **p.E that is not nil. -/
theorem as_isNil27 (a p : Addr) (W : World) (ha : W.cell? a = some (.pointer (some p))) :
    (ReflectliteValue.method (ReflectliteValue.valueError "reflectlite.Value.IsNil" 0) ReflectliteValue.isNil #[.agg #[.pointer (some ⟨6, 133, none⟩), .pointer (some a), .int .u64 150]]).run Tryz.prog W = .ok (.bool false) W := by
  rw [rlm]
  simp only [Sem.run_bind, as_parts27, Result.andThen]
  simp [ReflectliteValue.isNil, loadVar, isAgg, underlying, Tryz.underlying133, ha, Result.andThen]

theorem as_methodElem (h : Value) (w : World) : (Go.method 335 186 (.agg #[h]) "Elem").run Tryz.prog w = .ok (152, .agg #[h]) w := by kernel_rfl
theorem as_methodImplements (h : Value) (w : World) : (Go.method 335 186 (.agg #[h]) "Implements").run Tryz.prog w = .ok (153, .agg #[h]) w := by kernel_rfl
theorem as_methodAssignableTo (h : Value) (w : World) : (Go.method 335 186 (.agg #[h]) "AssignableTo").run Tryz.prog w = .ok (150, .agg #[h]) w := by kernel_rfl
theorem as_elem27 (w : World) : (ReflectliteType.method ReflectliteType.elem #[.agg #[.pointer (some ⟨6, 133, none⟩)]]).run Tryz.prog w = .ok (.iface 186 (.agg #[.pointer (some ⟨6, 86, none⟩)])) w := by kernel_rfl
theorem as_implements25 (w : World) : (ReflectliteType.relation "Implements" ReflectliteType.implements_ #[.agg #[.pointer (some ⟨6, 86, none⟩)], .iface 186 (.agg #[.pointer (some ⟨6, 31, none⟩)])]).run Tryz.prog w = .ok (.bool true) w := by kernel_rfl
theorem as_typeOf25 (v : Value) (w : World) : (ReflectliteType.typeOf #[.iface 86 v]).run Tryz.prog w = .ok (.iface 186 (.agg #[.pointer (some ⟨6, 86, none⟩)])) w := by kernel_rfl
theorem as_assignable25 (w : World) : (ReflectliteType.relation "AssignableTo" ReflectliteType.assignableTo #[.agg #[.pointer (some ⟨6, 86, none⟩)], .iface 186 (.agg #[.pointer (some ⟨6, 86, none⟩)])]).run Tryz.prog w = .ok (.bool true) w := by kernel_rfl
theorem as_valueOf25 (e : Int) (w : World) : (ReflectliteValue.unpack (.iface 86 (.int .i64 e))).run Tryz.prog w
    = .ok (.agg #[.pointer (some ⟨6, 86, none⟩), .pointer (some ⟨w.heap.size, 0, none⟩), .int .u64 130]) (w.alloc (.cells #[.int .i64 e] 86)) := by kernel_rfl

theorem as_elemOf27 (w : World) : (Rtype.elem? 133).run Tryz.prog w = .ok (some 86) w := by kernel_rfl
theorem as_mk25 (p : Addr) (w : World) : (ReflectliteValue.mk 86 p ReflectliteValue.flagAddr).run Tryz.prog w = .ok (.agg #[.pointer (some ⟨6, 86, none⟩), .pointer (some p), .int .u64 386]) w := by kernel_rfl
/-- (Value).Elem at the Value of a **p.E that is not nil: the Value of the *p.E variable that it points to, addressable. -/
theorem as_elemV27 (a p : Addr) (W : World) (ha : W.cell? a = some (.pointer (some p))) :
    (ReflectliteValue.method (ReflectliteValue.valueError "reflectlite.Value.Elem" 0) ReflectliteValue.elem #[.agg #[.pointer (some ⟨6, 133, none⟩), .pointer (some a), .int .u64 150]]).run Tryz.prog W
      = .ok (.agg #[.pointer (some ⟨6, 86, none⟩), .pointer (some p), .int .u64 386]) W := by
  rw [rlm]
  simp only [Sem.run_bind, as_parts27, Result.andThen]
  simp [ReflectliteValue.elem, loadVar, isAgg, underlying, Tryz.underlying133, ha, Result.andThen, as_elemOf27, as_mk25]
theorem rls (v x : Value) : ReflectliteValue.set #[v, x] = (do
    let (some (dst, a, fl), some (src, b, _)) := (← ReflectliteValue.parts v, ← ReflectliteValue.parts x)
      | unsupported (.noEntry "extern/(internal/reflectlite.Value).Set.zeroValue")
    if fl / ReflectliteValue.flagAddr % 2 == 0 then unsupported (.noEntry "extern/(internal/reflectlite.Value).Set.unaddressable")
    let val ← loadVar src b
    if ← Rtype.directlyAssignable dst src then storeVar dst a val
    else if ← Rtype.implements dst src then
      if (← Rtype.kind src) == 20 then
        match val with
        | .nilIface => unsupported (.noEntry "extern/reflectlite: a nil value of one interface type handed on as a value of another")
        | _ => storeVar dst a val
      else storeVar dst a (.iface src val)
    else panicString ("reflectlite.Set: value of type " ++ (← Rtype.spelt src) ++ " is not assignable to type " ++ (← Rtype.spelt dst))
    pure (.tuple #[])) := rfl
theorem as_parts25a (a : Addr) (w : World) : (ReflectliteValue.parts (.agg #[.pointer (some ⟨6, 86, none⟩), .pointer (some a), .int .u64 386])).run Tryz.prog w = .ok (some (86, a, 386)) w := by kernel_rfl
theorem as_parts25 (a : Addr) (w : World) : (ReflectliteValue.parts (.agg #[.pointer (some ⟨6, 86, none⟩), .pointer (some a), .int .u64 130])).run Tryz.prog w = .ok (some (86, a, 130)) w := by kernel_rfl
theorem as_direct25 (w : World) : (Rtype.directlyAssignable 86 86).run Tryz.prog w = .ok true w := by kernel_rfl
/-- (Value).Set: the *p.E variable at 'ta' gets what the Value's own variable 'b' holds. -/
theorem as_set25 (ta b : Addr) (e : Int) (old : Value) (W : World) (hb : W.cell? b = some (.int .i64 e)) (ht : W.cell? ta = some old) (hf : W.frozen? ta = false) :
    (ReflectliteValue.set #[.agg #[.pointer (some ⟨6, 86, none⟩), .pointer (some ta), .int .u64 386], .agg #[.pointer (some ⟨6, 86, none⟩), .pointer (some b), .int .u64 130]]).run Tryz.prog W
      = .ok (.tuple #[]) (W.setCell ta (.int .i64 e)) := by
  rw [rls]
  simp only [Sem.run_bind, as_parts25a, as_parts25, Result.andThen]
  simp [ReflectliteValue.flagAddr, loadVar, isAgg, underlying, Tryz.underlying86, hb, Result.andThen, as_direct25, storeVar, Value.cells, storeCells, Addr.add]
  rw [run_store Tryz.prog W ta _ _ (by rfl)]
  simp [ht, hf]

set_option maxRecDepth 100000 in
set_option maxHeartbeats 8000000 in
theorem as_hit (e : Int) (t : Addr) (old : Value) (w : World) (hg : w.cell? ⟨1, 0, none⟩ = some (.iface 186 (.agg #[.pointer (some ⟨6, 31, none⟩)]))) (ht0 : w.cell? t = some old) (hf0 : w.frozen? t = false) :
    Calls Tryz.prog 67 #[.iface 86 (.int .i64 e), .iface 133 (.pointer (some t))] w fun ev w' => ev = .returned (.bool true) ∧ w' = ((((w.alloc (.cells #[.pointer (some t)] 133)).alloc (.cells #[.pointer (some ⟨6, 133, none⟩), .pointer (some ⟨w.heap.size, 0, none⟩), .int .u64 150] 154)).alloc (.cells #[.pointer (some ⟨6, 133, none⟩), .pointer (some ⟨w.heap.size, 0, none⟩), .int .u64 150] 154)).alloc (.cells #[.int .i64 e] 86)).setCell t (.int .i64 e) := by
  have h6 := @run_callFunc_extern Tryz.prog 87 _ (fun args => ReflectliteValue.unpack (args.getD 0 (.tuple #[]))) Tryz.func87 (by kernel_rfl) (by kernel_rfl) (by kernel_rfl) (by kernel_rfl)
  have h7 := @run_callFunc_extern Tryz.prog 88 _ (ReflectliteValue.methodAny (ReflectliteValue.valueError "reflectlite.Value.Type" 0) (fun t _ _ _ => ReflectliteType.toType t)) Tryz.func88 (by kernel_rfl) (by kernel_rfl) (by kernel_rfl) (by kernel_rfl)
  have h8 := @run_callFunc_extern Tryz.prog 89 _ (ReflectliteValue.method (ReflectliteValue.valueError "reflectlite.Value.IsNil" 0) ReflectliteValue.isNil) Tryz.func89 (by kernel_rfl) (by kernel_rfl) (by kernel_rfl) (by kernel_rfl)
  have h27 := @run_callFunc_extern Tryz.prog 140 _ (ReflectliteType.abiMethod fun t => do pure (.int .u8 (← Rtype.kind t))) Tryz.func140 (by kernel_rfl) (by kernel_rfl) (by kernel_rfl) (by kernel_rfl)
  have h37 := @run_callFunc_extern Tryz.prog 152 _ (ReflectliteType.method ReflectliteType.elem) Tryz.func152 (by kernel_rfl) (by kernel_rfl) (by kernel_rfl) (by kernel_rfl)
  have h38 := @run_callFunc_extern Tryz.prog 153 _ (ReflectliteType.relation "Implements" ReflectliteType.implements_) Tryz.func153 (by kernel_rfl) (by kernel_rfl) (by kernel_rfl) (by kernel_rfl)
  have h10 := @run_callFunc_extern Tryz.prog 111 _ ReflectliteType.typeOf Tryz.func111 (by kernel_rfl) (by kernel_rfl) (by kernel_rfl) (by kernel_rfl)
  have h35 := @run_callFunc_extern Tryz.prog 150 _ (ReflectliteType.relation "AssignableTo" ReflectliteType.assignableTo) Tryz.func150 (by kernel_rfl) (by kernel_rfl) (by kernel_rfl) (by kernel_rfl)
  have h11 := @run_callFunc_extern Tryz.prog 112 _ (ReflectliteValue.method (ReflectliteValue.valueError "reflectlite.Value.Elem" 0) ReflectliteValue.elem) Tryz.func112 (by kernel_rfl) (by kernel_rfl) (by kernel_rfl) (by kernel_rfl)
  have h12 := @run_callFunc_extern Tryz.prog 113 _ ReflectliteValue.set Tryz.func113 (by kernel_rfl) (by kernel_rfl) (by kernel_rfl) (by kernel_rfl)
  have tO := as_typeOf25
  have mA := as_methodAssignableTo
  have a25 := as_assignable25
  have v25 := as_valueOf25
  have f6 := as_valueOf27
  have f7 := as_type27
  have mK := as_methodKind
  have mE := as_methodElem
  have mI := as_methodImplements
  have k27 := as_kind27
  have k25 := as_kind25
  have e27 := as_elem27
  have i25 := as_implements25
  have n8 := as_isNil27 ⟨w.heap.size, 0, none⟩ t ((w.alloc (.cells #[.pointer (some t)] 133)).alloc (.cells #[.pointer (some ⟨6, 133, none⟩), .pointer (some ⟨w.heap.size, 0, none⟩), .int .u64 150] 154)) (by simp)
  have hlt : 1 < w.heap.size := by
    rcases Nat.lt_or_ge 1 w.heap.size with h | h
    · exact h
    · simp [World.cell?, Array.getElem?_eq_none h] at hg
  have hg2 : ((w.alloc (.cells #[.pointer (some t)] 133)).alloc (.cells #[.pointer (some ⟨6, 133, none⟩), .pointer (some ⟨w.heap.size, 0, none⟩), .int .u64 150] 154)).cell? ⟨1, 0, none⟩ = some (.iface 186 (.agg #[.pointer (some ⟨6, 31, none⟩)])) := by
    rw [World.cell?_alloc_lt _ _ ⟨1, 0, none⟩ (by simp <;> omega), World.cell?_alloc_lt _ _ ⟨1, 0, none⟩ hlt]; exact hg
  have htl : t.block < w.heap.size := by
    rcases Nat.lt_or_ge t.block w.heap.size with h | h
    · exact h
    · simp [World.cell?, Array.getElem?_eq_none h] at ht0
  have el := as_elemV27 ⟨w.heap.size, 0, none⟩ t (((w.alloc (.cells #[.pointer (some t)] 133)).alloc (.cells #[.pointer (some ⟨6, 133, none⟩), .pointer (some ⟨w.heap.size, 0, none⟩), .int .u64 150] 154)).alloc (.cells #[.pointer (some ⟨6, 133, none⟩), .pointer (some ⟨w.heap.size, 0, none⟩), .int .u64 150] 154)) (by rw [World.cell?_alloc_lt _ _ ⟨w.heap.size, 0, none⟩ (by simp; omega)]; simp)
  have st := as_set25 t ⟨w.heap.size + 1 + 1 + 1, 0, none⟩ e old ((((w.alloc (.cells #[.pointer (some t)] 133)).alloc (.cells #[.pointer (some ⟨6, 133, none⟩), .pointer (some ⟨w.heap.size, 0, none⟩), .int .u64 150] 154)).alloc (.cells #[.pointer (some ⟨6, 133, none⟩), .pointer (some ⟨w.heap.size, 0, none⟩), .int .u64 150] 154)).alloc (.cells #[.int .i64 e] 86))
    (by rw [World.cell?_alloc_at _ _ _ _ (by simp)]; rfl)
    (by rw [World.cell?_alloc_lt _ _ t (by simp; omega), World.cell?_alloc_lt _ _ t (by simp; omega), World.cell?_alloc_lt _ _ t (by simp; omega), World.cell?_alloc_lt _ _ t htl]; exact ht0)
    (by rw [World.frozen?_alloc_old _ _ t (by simp; omega), World.frozen?_alloc_old _ _ t (by simp; omega), World.frozen?_alloc_old _ _ t (by simp; omega), World.frozen?_alloc_old _ _ t (Nat.ne_of_lt htl)]; exact hf0)
  go_enter Tryz.func67, Tryz.ntmps67
  go_wp2
  refine wp_loop_rounds 1 ?_
  rw [rounds_succ]
  go_wp2
  go_ret
  exact ⟨rfl, rfl⟩
end Go.Proofs.YtcpllhjhnfmepaaGreatDoor

/- A region of quiet operations and of others that may turn what the call owns, these in every order that is allowed. For any program. -/
namespace Go.Proofs.YtcpllhjhnfmepaaGreatDoor
set_option linter.all false
open Go.RowKit
section
variable {P : Program} {ops : Array Oper} {F : World → Prop} {QN : Act → World → Prop}

/-- one operation, and what is to hold behind it -/
def CStep (P : Program) (ops : Array Oper) (F : World → Prop) (K : Act → (World → Prop) → Prop) (o : Oper) (a : Act) (C : World → Prop) : Prop :=
    (Region.wanted o (yielded ops a.tmps) = true ∧ ∀ w, C w → o.wp P a w (fun a' w' => ∃ C' : World → Prop, C' w' ∧ (∀ w w', C' w → Ext w w' → C' w') ∧ (∀ w, C' w → F w) ∧ K a' C') (fun _ _ _ => False)) ∨
    (Region.wanted o (yielded ops a.tmps) = false ∧ K (a.put o.dst undef) C)
/-- the walk over the operations whose numbers are in the list, in every order that is allowed -/
def Braid (P : Program) (ops : Array Oper) (F : World → Prop) (QN : Act → World → Prop) : Nat → List Nat → Act → (World → Prop) → Prop
  | 0, rest, a, C => rest = [] ∧ ∀ w, C w → QN a w
  | f + 1, rest, a, C => (rest = [] → ∀ w, C w → QN a w) ∧ ∀ i ∈ rest, (∀ j ∈ rest, waits ops i j = false) → ∀ o, ops[i]? = some o → CStep P ops F (Braid P ops F QN f (rest.filter (· != i))) o a C
theorem Braid.fin {f : Nat} {a : Act} {C : World → Prop} (h : Braid P ops F QN f [] a C) : ∀ w, C w → QN a w := by
  cases f with
  | zero => exact h.2
  | succ f => exact h.1 rfl
/-- the operations that may come next -/
def nextsOf (ops : Array Oper) (rest : List Nat) : List Nat := rest.filter fun i => rest.all fun j => !waits ops i j
theorem Braid.next {f : Nat} {rest nx : List Nat} {a : Act} {C : World → Prop} (hne : rest.isEmpty = false) (hx : nextsOf ops rest = nx) (h : ∀ i ∈ nx, ∀ o, ops[i]? = some o → CStep P ops F (Braid P ops F QN f (rest.filter (· != i))) o a C) : Braid P ops F QN (f + 1) rest a C := by
  refine ⟨fun e => absurd hne (by rw [e]; decide), fun i hi hw o ho => h i ?_ o ho⟩
  rw [← hx]
  exact List.mem_filter.2 ⟨hi, List.all_eq_true.2 fun j hj => by rw [hw j hj]; rfl⟩
theorem Braid.next1 {f : Nat} {rest : List Nat} {a : Act} {C : World → Prop} {i : Nat} {o : Oper} (hne : rest.isEmpty = false) (hx : nextsOf ops rest = [i]) (ho : ops[i]? = some o) (h : CStep P ops F (Braid P ops F QN f (rest.filter (· != i))) o a C) : Braid P ops F QN (f + 1) rest a C :=
  Braid.next hne hx fun k hk o' ho' => by
    obtain rfl : k = i := by simpa using hk
    obtain rfl : o = o' := Option.some.inj (ho.symm.trans ho')
    exact h
theorem Braid.next2 {f : Nat} {rest : List Nat} {a : Act} {C : World → Prop} {i j : Nat} {o p : Oper} (hne : rest.isEmpty = false) (hx : nextsOf ops rest = [i, j]) (ho : ops[i]? = some o) (hp : ops[j]? = some p) (h : CStep P ops F (Braid P ops F QN f (rest.filter (· != i))) o a C) (h2 : CStep P ops F (Braid P ops F QN f (rest.filter (· != j))) p a C) : Braid P ops F QN (f + 1) rest a C :=
  Braid.next hne hx fun k hk o' ho' => by
    rcases (by simpa using hk : k = i ∨ k = j) with rfl | rfl
    · obtain rfl : o = o' := Option.some.inj (ho.symm.trans ho')
      exact h
    · obtain rfl : p = o' := Option.some.inj (hp.symm.trans ho')
      exact h2
theorem Braid.last {f : Nat} {rest : List Nat} {a : Act} {C : World → Prop} (hr : rest = []) (h : ∀ w, C w → QN a w) : Braid P ops F QN f rest a C := by
  subst hr
  cases f with
  | zero => exact ⟨rfl, h⟩
  | succ f => exact ⟨fun _ => h, fun i hi => by cases hi⟩
theorem Braid.done {a : Act} {C : World → Prop} (h : ∀ w, C w → QN a w) : ∀ f, Braid P ops F QN f [] a C
  | 0 => ⟨rfl, h⟩
  | f + 1 => ⟨fun _ => h, fun i hi => by cases hi⟩

variable {B : Nat} {w0 : World} {L : List Item} {o : Oper} {a : Act} {K : Act → (World → Prop) → Prop}
theorem CStep.skip (hw : Region.wanted o (yielded ops a.tmps) = false) (h : K (a.put o.dst undef) (fun W => Hp B w0 W L)) : CStep P ops F K o a (fun W => Hp B w0 W L) := .inr ⟨hw, h⟩
/-- an operation that only computes or reads -/
theorem CStep.val {v : Value} (hw : Region.wanted o (yielded ops a.tmps) = true) (hF : ∀ w, Hp B w0 w L → F w) (hr : ∀ w, Hp B w0 w L → (execOp a.eval o).run P w = .ok (.value v) w)
    (h : K (a.put o.dst v) (fun W => Hp B w0 W L)) : CStep P ops F K o a (fun W => Hp B w0 W L) := by
  refine .inl ⟨hw, fun w hS => ?_⟩
  unfold Oper.wp
  rw [hr w hS]
  exact ⟨_, hS, fun _ _ h hx => h.step hx, hF, h⟩
/-- an operation that makes a block -/
theorem CStep.alloc {cs : List Value} {t : TypeId} {f : Nat → Value} (hw : Region.wanted o (yielded ops a.tmps) = true) (hF : ∀ w, Hp B w0 w L → F w) (hr : ∀ w, Hp B w0 w L → (execOp a.eval o).run P w = .ok (.value (f w.heap.size)) (w.alloc (.cells cs.toArray t)))
    (h : ∀ g, K (a.put o.dst (f g)) (fun W => Hp B w0 W (.blk g cs t :: L))) : CStep P ops F K o a (fun W => Hp B w0 W L) := by
  refine .inl ⟨hw, fun w hS => ?_⟩
  unfold Oper.wp
  rw [hr w hS]
  exact ⟨fun W => Hp B w0 W (.blk w.heap.size cs t :: L), hS.alloc cs t, fun _ _ h hx => h.step hx, fun W hW => hF W hW.tail, h _⟩
/-- a call -/
theorem CStep.call {f : FuncId} {args : Array Value} (hw : Region.wanted o (yielded ops a.tmps) = true) (hr : ∀ w, Hp B w0 w L → (execOp a.eval o).run P w = .ok (.enter f args) w)
    (hc : ∀ w, Hp B w0 w L → Calls P f args w fun e w' => ∃ (v : Value) (L' : List Item), e = .returned v ∧ Hp B w0 w' L' ∧ (∀ w, Hp B w0 w L' → F w) ∧ K (a.put o.dst v) (fun W => Hp B w0 W L')) :
    CStep P ops F K o a (fun W => Hp B w0 W L) := by
  refine .inl ⟨hw, fun w hS => ?_⟩
  unfold Oper.wp
  rw [hr w hS]
  refine (hc w hS).mono fun e w' ⟨v, L', h1, h2, h3, h4⟩ => ?_
  subst h1
  exact ⟨_, h2, fun _ _ h hx => h.step hx, h3, h4⟩
/-- append of elements that lie at ad -/
theorem CStep.append {t e : TypeId} {size bytes n m c cap : Nat} {A : Option Addr} {xs news : List Value} {L0 : List Item} (hE : Elem P t e size bytes) (hw : Region.wanted o (yielded ops a.tmps) = true) (s x : Operand)
    (ho : o.op = .call { callee := .builtin .append, args := #[s, x], argTypes := #[t, t] }) (i : Nat) (hi : L[i]? = some (.row e size A n cap xs)) (hL0 : L.eraseIdx i = L0) (hs : a.eval s = .slice A n cap) (ad : Addr) (hx : a.eval x = .slice (some ad) m c) (hl : news.length = m * size)
    (hnews : ∀ w, Hp B w0 w L → ∀ j u, news[j]? = some u → w.cell? (ad.add j) = some u) (h1 : ∀ u ∈ news, u.oneCell' = true) (hn : (n + m) * bytes ≤ 140737488355328) (hm : n + m ≤ 140737488355328)
    (hF : ∀ w, Hp B w0 w L0 → F w) (h : ∀ A' cap', K (a.put o.dst (.slice A' (n + m : Nat) cap')) (fun W => Hp B w0 W (.row e size A' (n + m) cap' (xs ++ news) :: L0))) :
    CStep P ops F K o a (fun W => Hp B w0 W L) := by
  subst hL0
  refine .inl ⟨hw, fun w hS => ?_⟩
  obtain ⟨A', cap', w', hr, h2⟩ := run_append_hp (P := P) (c := c) (ty := o.type) hE (hS.front i hi) ad hl (hnews w hS) h1 hn hm
  unfold Oper.wp execOp
  simp only [ho, resolve, invoke, builtin, Sem.run_bind, Sem.run_pure, Result.andThen_ok, List.map_toArray, List.map_cons, List.map_nil, hs, hx, hr]
  exact ⟨_, h2, fun _ _ h hx => h.step hx, fun W hW => hF W hW.tail, h A' cap'⟩
end
end Go.Proofs.YtcpllhjhnfmepaaGreatDoor

/- As BraidZ: and operations from number z on wait for all quiet ones: they may turn what these read. For any program. -/
namespace Go.Proofs.YtcpllhjhnfmepaaGreatDoor
set_option linter.all false
open Go.RowKit
section
variable {P : Program} {ops : Array Oper} {F : World → Prop} {QN : Act → World → Prop} {z : Nat} {zc : Bool}

/-- the quiet ones wait for quiet ones alone -/
def braidZ (ops : Array Oper) (mk : Nat → Mark) (z : Nat) : Bool :=
  (List.range ops.size).all (fun i => !((mk i).isT && decide (z ≤ i)) || (List.range ops.size).all fun j => (mk j).isT || deps ops 6 i j) && (fixedOk ops && (List.range ops.size).all fun i => ((mk i).isQ || (mk i).isT) && (List.range ops.size).all fun j => (mk i).isT || !(waits ops i j && (mk j).isT))

/-- one operation, and what is to hold behind it -/
def ZStep (P : Program) (ops : Array Oper) (F : World → Prop) (zc : Bool) (K : Act → (World → Prop) → Prop) (o : Oper) (a : Act) (C : World → Prop) : Prop :=
    (Region.wanted o (yielded ops a.tmps) = true ∧ ∀ w, C w → o.wp P a w (fun a' w' => ∃ C' : World → Prop, C' w' ∧ (∀ w w', C' w → Ext w w' → C' w') ∧ (zc = true ∨ ∀ w, C' w → F w) ∧ K a' C') (fun _ _ _ => False)) ∨
    (Region.wanted o (yielded ops a.tmps) = false ∧ K (a.put o.dst undef) C)
/-- the walk over the operations whose numbers are in the list, in every order that is allowed -/
def BraidZ (P : Program) (ops : Array Oper) (F : World → Prop) (QN : Act → World → Prop) (z : Nat) : Nat → List Nat → Act → (World → Prop) → Prop
  | 0, rest, a, C => rest = [] ∧ ∀ w, C w → QN a w
  | f + 1, rest, a, C => (rest = [] → ∀ w, C w → QN a w) ∧ ∀ i ∈ rest, (∀ j ∈ rest, waits ops i j = false) → ∀ o, ops[i]? = some o → ZStep P ops F (decide (z ≤ i)) (BraidZ P ops F QN z f (rest.filter (· != i))) o a C
theorem BraidZ.fin {f : Nat} {a : Act} {C : World → Prop} (h : BraidZ P ops F QN z f [] a C) : ∀ w, C w → QN a w := by
  cases f with
  | zero => exact h.2
  | succ f => exact h.1 rfl
/-- the operations that may come next -/
def nextsZ (ops : Array Oper) (rest : List Nat) : List Nat := rest.filter fun i => rest.all fun j => !waits ops i j
theorem BraidZ.next {f : Nat} {rest nx : List Nat} {a : Act} {C : World → Prop} (hne : rest.isEmpty = false) (hx : nextsZ ops rest = nx) (h : ∀ i ∈ nx, ∀ o, ops[i]? = some o → ZStep P ops F (decide (z ≤ i)) (BraidZ P ops F QN z f (rest.filter (· != i))) o a C) : BraidZ P ops F QN z (f + 1) rest a C := by
  refine ⟨fun e => absurd hne (by rw [e]; decide), fun i hi hw o ho => h i ?_ o ho⟩
  rw [← hx]
  exact List.mem_filter.2 ⟨hi, List.all_eq_true.2 fun j hj => by rw [hw j hj]; rfl⟩
theorem BraidZ.next1 {f : Nat} {rest : List Nat} {a : Act} {C : World → Prop} {i : Nat} {o : Oper} (hne : rest.isEmpty = false) (hx : nextsZ ops rest = [i]) (ho : ops[i]? = some o) (h : ZStep P ops F (decide (z ≤ i)) (BraidZ P ops F QN z f (rest.filter (· != i))) o a C) : BraidZ P ops F QN z (f + 1) rest a C :=
  BraidZ.next hne hx fun k hk o' ho' => by
    obtain rfl : k = i := by simpa using hk
    obtain rfl : o = o' := Option.some.inj (ho.symm.trans ho')
    exact h
theorem BraidZ.next2 {f : Nat} {rest : List Nat} {a : Act} {C : World → Prop} {i j : Nat} {o p : Oper} (hne : rest.isEmpty = false) (hx : nextsZ ops rest = [i, j]) (ho : ops[i]? = some o) (hp : ops[j]? = some p) (h : ZStep P ops F (decide (z ≤ i)) (BraidZ P ops F QN z f (rest.filter (· != i))) o a C) (h2 : ZStep P ops F (decide (z ≤ j)) (BraidZ P ops F QN z f (rest.filter (· != j))) p a C) : BraidZ P ops F QN z (f + 1) rest a C :=
  BraidZ.next hne hx fun k hk o' ho' => by
    rcases (by simpa using hk : k = i ∨ k = j) with rfl | rfl
    · obtain rfl : o = o' := Option.some.inj (ho.symm.trans ho')
      exact h
    · obtain rfl : p = o' := Option.some.inj (hp.symm.trans ho')
      exact h2
theorem BraidZ.last {f : Nat} {rest : List Nat} {a : Act} {C : World → Prop} (hr : rest = []) (h : ∀ w, C w → QN a w) : BraidZ P ops F QN z f rest a C := by
  subst hr
  cases f with
  | zero => exact ⟨rfl, h⟩
  | succ f => exact ⟨fun _ => h, fun i hi => by cases hi⟩
theorem BraidZ.done {a : Act} {C : World → Prop} (h : ∀ w, C w → QN a w) : ∀ f, BraidZ P ops F QN z f [] a C
  | 0 => ⟨rfl, h⟩
  | f + 1 => ⟨fun _ => h, fun i hi => by cases hi⟩

theorem phaseZ {mk : Nat → Mark} {Q : Exit → Act → World → Prop} {a00 : Act} {vsQ : Nat → Value} (hok : braidZ ops mk z = true) (hQN : ∀ a w, QN a w → Q .normal a w)
    (hq : ∀ i o, ops[i]? = some o → (mk i).isT = false → (Region.wanted o (yielded ops (frameQ ops mk vsQ a00 i).tmps) = true ∧ StepOK P F o (frameQ ops mk vsQ a00 i) (vsQ i)) ∨ (Region.wanted o (yielded ops (frameQ ops mk vsQ a00 i).tmps) = false ∧ vsQ i = undef)) :
    ∀ (fuel : Nat) (listed : Array Bool) (vs : Nat → Value) (a0 : Act) (w : World) (rest : List Nat) (C : World → Prop) (f : Nat), a0.tmps = a00.tmps → listed.size = ops.size → ((List.range ops.size).filter fun j => !listed.getD j true).length ≤ fuel →
      (∀ i j, listed.getD i false = true → waits ops i j = true → listed.getD j false = true) →
      (∀ i, (mk i).isT = false → vs i = vsQ i) →
      rest = (List.range ops.size).filter (fun i => (mk i).isT && !listed.getD i false) → C w → (∀ w w', C w → Ext w w' → C w') → ((∀ w, C w → F w) ∨ ∀ j, j < ops.size → (mk j).isT = false → listed.getD j false = true) →
      BraidZ P ops F QN z f rest (frameOf ops vs (fun j => !(mk j).isT || listed.getD j false) a0 ops.size) C →
      wpAny P .any ops Q fuel listed (frameOf ops vs (fun j => listed.getD j false) a0 ops.size) w := by
  simp only [braidZ, Bool.and_eq_true] at hok
  obtain ⟨hzz, hfx, hch⟩ := hok
  have hzd : ∀ i j, i < ops.size → j < ops.size → (mk i).isT = true → z ≤ i → (mk j).isT = false → deps ops 6 i j = true := fun i j hi hj hT hz hTj => by
    have h := List.all_eq_true.1 hzz i (by simpa using hi)
    rw [hT, decide_eq_true hz, Bool.and_self, Bool.not_true, Bool.false_or] at h
    have h2 := List.all_eq_true.1 h j (by simpa using hj)
    rwa [hTj, Bool.false_or] at h2
  have hd : dstApart ops = true := by simp only [fixedOk, Bool.and_eq_true] at hfx; exact hfx.1
  have hl : looksOk ops = true := by simp only [fixedOk, Bool.and_eq_true] at hfx; exact hfx.2
  rw [List.all_eq_true] at hch
  have hquiet : ∀ i j, (mk i).isT = false → waits ops i j = true → (mk j).isT = false := fun i j hT hw => by
    have hi := waits_lt hw
    have h := hch i (by simpa using hi)
    rw [Bool.and_eq_true] at h
    have h2 := List.all_eq_true.1 h.2 j (by simpa using Nat.lt_trans (waits_on hl hw) hi)
    rw [hT, hw] at h2
    simpa using h2
  have hQT : ∀ i, i < ops.size → (mk i).isQ = !(mk i).isT := fun i hi => by
    have h := hch i (by simpa using hi)
    rw [Bool.and_eq_true] at h
    rcases (mk i).trio with ⟨a, b, c⟩ | ⟨a, b, c⟩ | ⟨a, b, c⟩ <;> simp [a, c] at h ⊢
  have fin : ∀ (listed : Array Bool) (vs : Nat → Value) (a0 : Act) (w : World) (rest : List Nat) (C : World → Prop) (f : Nat), listed.size = ops.size → rest = (List.range ops.size).filter (fun i => (mk i).isT && !listed.getD i false) → C w →
      BraidZ P ops F QN z f rest (frameOf ops vs (fun j => !(mk j).isT || listed.getD j false) a0 ops.size) C → Region.ready .any ops listed = [] → Q .normal (frameOf ops vs (fun j => listed.getD j false) a0 ops.size) w := by
    intro listed vs a0 w rest C f hs hrest hC hw hr
    have hall := all_listed hl hs hr
    have : rest = [] := by
      rw [hrest, List.filter_eq_nil_iff]
      intro i hi
      simp [hall i (by simpa using hi)]
    subst this
    rw [frame_congr (M := fun j => !(mk j).isT || listed.getD j false) ops.size (fun j hj => by simp [hall j hj])]
    exact hQN _ _ (hw.fin w hC)
  intro fuel
  induction fuel with
  | zero =>
    intro listed vs a0 w rest C f _ hs hn _ _ hrest hC _ _ hw
    have hr : Region.ready .any ops listed = [] := by
      rw [List.eq_nil_iff_forall_not_mem]
      intro i hi
      obtain ⟨h0, o, ho, _⟩ := mem_ready.1 hi
      have : i ∈ (List.range ops.size).filter fun j => !listed.getD j true := List.mem_filter.2 ⟨by simpa using (Array.getElem?_eq_some_iff.1 ho).1, by simp [h0]⟩
      rw [List.eq_nil_of_length_eq_zero (Nat.le_zero.1 hn)] at this
      cases this
    exact ⟨hr, fin listed vs a0 w rest C f hs hrest hC hw hr⟩
  | succ fuel ih =>
    intro listed vs a0 w rest C f h00 hs hn hcld hvs hrest hC hCx hCF hw
    refine ⟨fin listed vs a0 w rest C f hs hrest hC hw, fun i hi => ?_⟩
    obtain ⟨h0, o, ho, hall⟩ := mem_ready.1 hi
    have hi' : i < ops.size := (Array.getElem?_eq_some_iff.1 ho).1
    have hsi : i < listed.size := by omega
    have hLi : listed.getD i false = false := by simpa [Array.getD_eq_getD_getElem?, hsi] using h0
    have hwl : ∀ j, waits ops i j = true → listed.getD j false = true := fun j hj => by
      obtain ⟨e, he, hb, rfl⟩ := (waits_spec ho).1 hj
      exact hall e he hb
    have hlw : ∀ j, waits ops j i = true → listed.getD j false = false := fun j hj => by
      cases hb : listed.getD j false with
      | false => rfl
      | true => rw [hcld j i hb hj] at hLi; cases hLi
    have hset := set_getD hsi
    cases hT : (mk i).isT with
    | false =>
      have hput : (ops[i]?).bind (·.dst) = o.dst := by rw [ho]; rfl
      have hwQ : vs i = vsQ i := hvs i hT
      replace hCF : ∀ w, C w → F w := hCF.resolve_right fun h => by rw [h i hi' hT] at hLi; cases hLi
      refine wpOp_fixed (b := frameQ ops mk vsQ a00 i) (v := vsQ i) ho (sel_of hl ho) ?_ (hCF w hC) (hq i o ho hT) ?_
      · intro t ht
        unfold frameQ
        refine frames_agree2 hd hl h00 ho (fun j hj hw => ⟨hwl j hw, ?_, ?_⟩) (fun j hj hw => ⟨hlw j hw, by simp; omega⟩) ht
        · simp [hj, hQT j (Nat.lt_trans hj hi'), hquiet i j hT hw]
        · exact hvs j (hquiet i j hT hw)
      · intro w' hx
        have hmore := frame_more hd (vs := vs) (L := fun j => listed.getD j false) (a0 := a0) hLi ops.size hi'
        rw [hput, hwQ] at hmore
        rw [← hmore, frame_congr (M := fun j => (listed.setIfInBounds i true).getD j false) ops.size (fun j _ => (hset j).symm)]
        refine ih _ vs a0 w' rest C f h00 (by simpa using hs) (set_count hsi hi' h0 hn) (set_closed hsi ho hall hcld) hvs ?_ (hCx w w' hC hx) hCx (.inl hCF) ?_
        · rw [hrest]
          refine List.filter_congr fun j _ => ?_
          rw [hset]
          by_cases e : j = i
          · subst e; simp [hT]
          · have : (j == i) = false := by simpa using e
            rw [this, Bool.false_or]
        · rw [frame_congr (M := fun j => !(mk j).isT || listed.getD j false) ops.size (fun j _ => by
            rw [hset]
            by_cases e : j = i
            · subst e; simp [hT]
            · have : (j == i) = false := by simpa using e
              rw [this, Bool.false_or])]
          exact hw
    | true =>
      have hput : (ops[i]?).bind (·.dst) = o.dst := by rw [ho]; rfl
      have hnQ : ∀ j, (mk j).isT = false → j ≠ i := fun j hj e => by subst e; rw [hT] at hj; cases hj
      have hmem : i ∈ rest := by rw [hrest]; exact List.mem_filter.2 ⟨by simpa using hi', by simp [hT, hLi]⟩
      have hnw : ∀ j ∈ rest, waits ops i j = false := fun j hj => by
        rw [hrest] at hj
        have hj2 := (List.mem_filter.1 hj).2
        simp only [Bool.and_eq_true, Bool.not_eq_true'] at hj2
        cases hw2 : waits ops i j with
        | false => rfl
        | true => rw [hwl j hw2] at hj2; cases hj2.2
      have hrest2 : rest.filter (· != i) = (List.range ops.size).filter (fun j => (mk j).isT && !(listed.setIfInBounds i true).getD j false) := by
        rw [hrest, List.filter_filter]
        refine List.filter_congr fun j _ => ?_
        rw [hset]
        by_cases e : j = i
        · subst e; simp
        · have : (j == i) = false := by simpa using e
          have h' : (j != i) = true := by simpa using e
          rw [this, h', Bool.false_or, Bool.true_and]
      obtain ⟨f, rfl⟩ : ∃ f', f = f' + 1 := by
        cases f with
        | zero => have h0 := hw.1; rw [h0] at hmem; cases hmem
        | succ f => exact ⟨f, rfl⟩
      have hw := hw.2 i hmem hnw o ho
      rw [hrest2] at hw
      have hLf : ∀ j, (!(mk j).isT || (listed.setIfInBounds i true).getD j false) = (j == i || (!(mk j).isT || listed.getD j false)) := fun j => by
        rw [hset]
        by_cases e : j = i
        · subst e; simp
        · have : (j == i) = false := by simpa using e
          rw [this]; simp
      have hgo : ∀ (v : Value) (w' : World) (ds : List Deferred) (C' : World → Prop), C' w' → (∀ w w', C' w → Ext w w' → C' w') → ((∀ w, C' w → F w) ∨ ∀ j, j < ops.size → (mk j).isT = false → (listed.setIfInBounds i true).getD j false = true) → BraidZ P ops F QN z f (List.filter (fun j => (mk j).isT && !(listed.setIfInBounds i true).getD j false) (List.range ops.size)) ((frameOf ops vs (fun j => !(mk j).isT || listed.getD j false) { a0 with defers := ds } ops.size).put o.dst v) C' →
          wpAny P .any ops Q fuel (listed.setIfInBounds i true) ((frameOf ops vs (fun j => listed.getD j false) { a0 with defers := ds } ops.size).put o.dst v) w' := by
        intro v w' ds C' hC' hCx' hCF' hw'
        obtain ⟨us, hus⟩ : ∃ us : Nat → Value, us = fun j => if j = i then v else vs j := ⟨_, rfl⟩
        have hui : us i = v := by rw [hus]; simp
        have huo : ∀ j, j ≠ i → us j = vs j := fun j hj => by rw [hus]; simp [hj]
        have m1 := frame_more hd (vs := us) (L := fun j => listed.getD j false) (a0 := { a0 with defers := ds }) hLi ops.size hi'
        have m2 := frame_more hd (vs := us) (L := fun j => !(mk j).isT || listed.getD j false) (a0 := { a0 with defers := ds }) (i := i) (by rw [hT, hLi]; rfl) ops.size hi'
        rw [hput, hui, frame_vsL (us := vs) (L := fun j => listed.getD j false) (fun j hj => huo j (fun e => by have hj : listed.getD j false = true := hj; rw [e, hLi] at hj; cases hj))] at m1
        rw [hput, hui, frame_vsL (us := vs) (L := fun j => !(mk j).isT || listed.getD j false) (fun j hj => huo j (fun e => by have hj : (!(mk j).isT || listed.getD j false) = true := hj; rw [e, hT, hLi] at hj; cases hj))] at m2
        rw [← m1, frame_congr (M := fun j => (listed.setIfInBounds i true).getD j false) ops.size (fun j _ => (hset j).symm)]
        rw [← m2, frame_congr (M := fun j => !(mk j).isT || (listed.setIfInBounds i true).getD j false) ops.size (fun j _ => (hLf j).symm)] at hw'
        exact ih _ us { a0 with defers := ds } w' _ C' f h00 (by simpa using hs) (set_count hsi hi' h0 hn) (set_closed hsi ho hall hcld)
          (fun j hj => by rw [huo j (hnQ j hj)]; exact hvs j hj) rfl hC' hCx' hCF' hw'
      have hab : ∀ t ∈ o.looksAt ops, (frameOf ops vs (fun j => listed.getD j false) a0 ops.size).tmps[t]? = (frameOf ops vs (fun j => !(mk j).isT || listed.getD j false) a0 ops.size).tmps[t]? := fun t ht =>
        frames_agree2 hd hl rfl ho (fun j hj hw => ⟨hwl j hw, by simp [hwl j hw], rfl⟩) (fun j hj hw => ⟨hlw j hw, by
          cases hTj : (mk j).isT with
          | true => simp [hlw j hw]
          | false =>
            have := hquiet j i hTj hw
            rw [hT] at this; cases this⟩) ht
      have e0 : ∀ (L : Nat → Bool) (ds : List Deferred), ({ frameOf ops vs L a0 ops.size with defers := ds } : Act) = frameOf ops vs L { a0 with defers := ds } ops.size := fun L ds => (frame_defers ops.size).symm
      have e1 : ∀ (L : Nat → Bool), (frameOf ops vs L a0 ops.size).defers = a0.defers := fun L => (frame_size ops.size).2
      have hzc : ∀ C' : World → Prop, (decide (z ≤ i) = true ∨ ∀ w, C' w → F w) → ((∀ w, C' w → F w) ∨ ∀ j, j < ops.size → (mk j).isT = false → (listed.setIfInBounds i true).getD j false = true) := fun C' h => h.elim (fun hz => .inr fun j hj hTj => by rw [hset, deps_closed hcld 6 i j hwl (hzd i j hi' hj hT (of_decide_eq_true hz) hTj), Bool.or_true]) .inl
      unfold wpOp
      simp only [ho]
      rw [wanted_agree hab]
      rcases hw with ⟨hwt, hw⟩ | ⟨hwt, hw⟩
      · rw [if_pos hwt]
        refine .inl (wp_transfer (exec_agree hl ho hab) (fun _ _ _ h => h.elim) (fun v w' h => ?_) (fun d w' h => ?_) (hw w hC))
        · obtain ⟨C', h1, h2, h3, h4⟩ := h
          exact hgo v w' a0.defers C' h1 h2 (hzc C' h3) h4
        · rw [e0, e1] at h ⊢
          obtain ⟨C', h1, h2, h3, h4⟩ := h
          exact hgo undef w' _ C' h1 h2 (hzc C' h3) h4
      · rw [if_neg (by rw [hwt]; simp)]
        exact hgo undef w a0.defers C hC hCx (hCF.imp id fun h j hj hTj => by rw [hset, h j hj hTj, Bool.or_true]) hw

/-- the numbers of the marked operations -/
def braidsOf (ms : List Mark) : List Nat := (List.range ms.length).filter fun i => (mkOf ms i).isT
/-- **A region of quiet operations and of others**, whatever order is drawn. -/
theorem any_region_braidz {a : Act} {w : World} {C : World → Prop} {Q : Exit → Act → World → Prop} {l : List Oper} {QN : Act → World → Prop} (ms : List Mark) (z : Nat) (F : World → Prop) (hQN : ∀ a w, QN a w → Q .normal a w) (hlen : l.length = ms.length) (hok : braidZ l.toArray (mkOf ms) z = true)
    (hC : C w) (hCx : ∀ w w', C w → Ext w w' → C w') (hCF : ∀ w, C w → F w)
    (h : Walk P l.toArray F (fun a' => BraidZ P l.toArray F QN z (braidsOf ms).length (braidsOf ms) a' C) ms l a) : wpAny P .any l.toArray Q l.toArray.size (Array.replicate l.toArray.size false) a w.drew := by
  have hok' := hok
  simp only [braidZ, Bool.and_eq_true] at hok'
  have hd : dstApart l.toArray = true := by have := hok'.2.1; simp only [fixedOk, Bool.and_eq_true] at this; exact this.1
  have hmk : ∀ j m, ms[j]? = some m → m = mkOf ms j := fun j m hj => by simp [mkOf, hj]
  have h0 : ∀ vs : Nat → Value, frameOf l.toArray vs (fun _ => false) a l.toArray.size = a := fun vs => by
    generalize l.toArray.size = n
    induction n with
    | zero => rfl
    | succ n ih => unfold frameOf; simpa using ih
  obtain ⟨vsQ, _, hK, hst⟩ := Walk.values (mk := mkOf ms) hd (a0 := a) l ms 0 (fun _ => undef) (by simp) (by simp) (fun j m hj => by rw [Nat.zero_add]; exact hmk j m hj) (by
    have : frameQ l.toArray (mkOf ms) (fun _ => undef) a 0 = a := by
      unfold frameQ
      rw [frame_congr (M := fun _ => false) _ (fun j _ => by simp)]
      exact h0 _
    rw [this]; exact h)
  have hq : ∀ i o, l.toArray[i]? = some o → (mkOf ms i).isT = false → (Region.wanted o (yielded l.toArray (frameQ l.toArray (mkOf ms) vsQ a i).tmps) = true ∧ StepOK P F o (frameQ l.toArray (mkOf ms) vsQ a i) (vsQ i)) ∨ (Region.wanted o (yielded l.toArray (frameQ l.toArray (mkOf ms) vsQ a i).tmps) = false ∧ vsQ i = undef) := by
    intro i o ho hT
    have hi : i < l.toArray.size := (Array.getElem?_eq_some_iff.1 ho).1
    have hh := List.all_eq_true.1 hok'.2.2 i (by simpa using hi)
    rw [Bool.and_eq_true] at hh
    have := hst i o (Nat.zero_le _) ho
    cases hmi : mkOf ms i with
    | q => rw [hmi] at this; exact this
    | p =>
      rw [hmi] at this
      rcases this with ⟨h1, h2⟩ | h
      · exact .inl ⟨h1, .inl fun w _ => h2 w⟩
      · exact .inr h
    | a cs t => rw [hmi] at hh; simp [Mark.isQ, Mark.isT] at hh
    | t => rw [hmi] at hT; cases hT
  have key := phaseZ (P := P) (F := F) (QN := QN) (mk := mkOf ms) (Q := Q) (a00 := a) (vsQ := vsQ) hok hQN hq l.toArray.size (Array.replicate l.toArray.size false) vsQ a w.drew ((List.range l.toArray.size).filter (fun i => (mkOf ms i).isT)) C (braidsOf ms).length rfl (by simp) (by
      have := List.length_filter_le (fun j => !(Array.replicate l.toArray.size false).getD j true) (List.range l.toArray.size)
      simpa using this) (fun i j hi => by rw [repl_false] at hi; cases hi) (fun _ _ => rfl) (List.filter_congr fun j _ => by rw [repl_false]; simp) (hCx w w.drew hC ((Ext.refl w).drew)) hCx (.inl hCF) ?_
  · rw [frame_congr (M := fun _ => false) l.toArray.size (fun j hj => repl_false _ _), h0] at key
    exact key
  · have e1 : frameQ l.toArray (mkOf ms) vsQ a l.toArray.size = frameOf l.toArray vsQ (fun j => !(mkOf ms j).isT || (Array.replicate l.toArray.size false).getD j false) a l.toArray.size := by
      unfold frameQ
      refine frame_congr _ fun j hj => ?_
      have hh := List.all_eq_true.1 hok'.2.2 j (by simpa using hj)
      rw [Bool.and_eq_true] at hh
      rw [repl_false, show decide (j < l.toArray.size) = true by simpa using hj]
      rcases (mkOf ms j).trio with ⟨a, b, c⟩ | ⟨a, b, c⟩ | ⟨a, b, c⟩ <;> simp [a, c] at hh ⊢
    rw [← e1]
    have e2 : (List.range l.toArray.size).filter (fun i => (mkOf ms i).isT) = braidsOf ms := by unfold braidsOf; rw [show l.toArray.size = ms.length by simp [hlen]]
    rw [e2]
    exact hK
theorem wp_region_braidz {a : Act} {w : World} {C : World → Prop} {Q : Exit → Act → World → Prop} {id : Nat} {l : List Oper} (ms : List Mark) (z : Nat) (F : World → Prop) (hm : P.follows .mixedOrders = true) (hlen : l.length = ms.length) (hok : braidZ l.toArray (mkOf ms) z = true)
    (hC : C w) (hCx : ∀ w w', C w → Ext w w' → C w') (hCF : ∀ w, C w → F w)
    (h : Walk P l.toArray F (fun a' => BraidZ P l.toArray F (fun a w => Q .normal a w) z (braidsOf ms).length (braidsOf ms) a' C) ms l a) : (Code.region id l.toArray true).wp P Q a w :=
  wp_region_any hm (any_region_braidz ms z F (fun _ _ h => h) hlen hok hC hCx hCF h)

variable {B : Nat} {w0 : World} {L : List Item} {o : Oper} {a : Act} {K : Act → (World → Prop) → Prop}
theorem ZStep.skip (hw : Region.wanted o (yielded ops a.tmps) = false) (h : K (a.put o.dst undef) (fun W => Hp B w0 W L)) : ZStep P ops F zc K o a (fun W => Hp B w0 W L) := .inr ⟨hw, h⟩
/-- an operation that only computes or reads -/
theorem ZStep.val {v : Value} (hw : Region.wanted o (yielded ops a.tmps) = true) (hF : ∀ w, Hp B w0 w L → F w) (hr : ∀ w, Hp B w0 w L → (execOp a.eval o).run P w = .ok (.value v) w)
    (h : K (a.put o.dst v) (fun W => Hp B w0 W L)) : ZStep P ops F zc K o a (fun W => Hp B w0 W L) := by
  refine .inl ⟨hw, fun w hS => ?_⟩
  unfold Oper.wp
  rw [hr w hS]
  exact ⟨_, hS, fun _ _ h hx => h.step hx, .inr hF, h⟩
/-- an operation that makes a block -/
theorem ZStep.alloc {cs : List Value} {t : TypeId} {f : Nat → Value} (hw : Region.wanted o (yielded ops a.tmps) = true) (hF : ∀ w, Hp B w0 w L → F w) (hr : ∀ w, Hp B w0 w L → (execOp a.eval o).run P w = .ok (.value (f w.heap.size)) (w.alloc (.cells cs.toArray t)))
    (h : ∀ g, K (a.put o.dst (f g)) (fun W => Hp B w0 W (.blk g cs t :: L))) : ZStep P ops F zc K o a (fun W => Hp B w0 W L) := by
  refine .inl ⟨hw, fun w hS => ?_⟩
  unfold Oper.wp
  rw [hr w hS]
  exact ⟨fun W => Hp B w0 W (.blk w.heap.size cs t :: L), hS.alloc cs t, fun _ _ h hx => h.step hx, .inr fun W hW => hF W hW.tail, h _⟩
/-- a call -/
theorem ZStep.call {f : FuncId} {args : Array Value} (hw : Region.wanted o (yielded ops a.tmps) = true) (hr : ∀ w, Hp B w0 w L → (execOp a.eval o).run P w = .ok (.enter f args) w)
    (hc : ∀ w, Hp B w0 w L → Calls P f args w fun e w' => ∃ (v : Value) (L' : List Item), e = .returned v ∧ Hp B w0 w' L' ∧ (∀ w, Hp B w0 w L' → F w) ∧ K (a.put o.dst v) (fun W => Hp B w0 W L')) :
    ZStep P ops F zc K o a (fun W => Hp B w0 W L) := by
  refine .inl ⟨hw, fun w hS => ?_⟩
  unfold Oper.wp
  rw [hr w hS]
  refine (hc w hS).mono fun e w' ⟨v, L', h1, h2, h3, h4⟩ => ?_
  subst h1
  exact ⟨_, h2, fun _ _ h hx => h.step hx, .inr h3, h4⟩
/-- append of elements that lie at ad -/
theorem ZStep.append {t e : TypeId} {size bytes n m c cap : Nat} {A : Option Addr} {xs news : List Value} {L0 : List Item} (hE : Elem P t e size bytes) (hw : Region.wanted o (yielded ops a.tmps) = true) (s x : Operand)
    (ho : o.op = .call { callee := .builtin .append, args := #[s, x], argTypes := #[t, t] }) (i : Nat) (hi : L[i]? = some (.row e size A n cap xs)) (hL0 : L.eraseIdx i = L0) (hs : a.eval s = .slice A n cap) (ad : Addr) (hx : a.eval x = .slice (some ad) m c) (hl : news.length = m * size)
    (hnews : ∀ w, Hp B w0 w L → ∀ j u, news[j]? = some u → w.cell? (ad.add j) = some u) (h1 : ∀ u ∈ news, u.oneCell' = true) (hn : (n + m) * bytes ≤ 140737488355328) (hm : n + m ≤ 140737488355328)
    (hF : ∀ w, Hp B w0 w L0 → F w) (h : ∀ A' cap', K (a.put o.dst (.slice A' (n + m : Nat) cap')) (fun W => Hp B w0 W (.row e size A' (n + m) cap' (xs ++ news) :: L0))) :
    ZStep P ops F zc K o a (fun W => Hp B w0 W L) := by
  subst hL0
  refine .inl ⟨hw, fun w hS => ?_⟩
  obtain ⟨A', cap', w', hr, h2⟩ := run_append_hp (P := P) (c := c) (ty := o.type) hE (hS.front i hi) ad hl (hnews w hS) h1 hn hm
  unfold Oper.wp execOp
  simp only [ho, resolve, invoke, builtin, Sem.run_bind, Sem.run_pure, Result.andThen_ok, List.map_toArray, List.map_cons, List.map_nil, hs, hx, hr]
  exact ⟨_, h2, fun _ _ h hx => h.step hx, .inr fun W hW => hF W hW.tail, h A' cap'⟩
/-- a store, behind all quiet ones -/
theorem ZStep.turn {L' : List Item} (hw : Region.wanted o (yielded ops a.tmps) = true) (hr : ∀ w, Hp B w0 w L → ∃ w', ((execOp a.eval o).run P w = .ok .skip w' ∨ (execOp a.eval o).run P w = .ok (.value undef) w') ∧ Hp B w0 w' L')
    (h : K (a.put o.dst undef) (fun W => Hp B w0 W L')) : ZStep P ops F true K o a (fun W => Hp B w0 W L) := by
  refine .inl ⟨hw, fun w hS => ?_⟩
  obtain ⟨w', hrun, h2⟩ := hr w hS
  unfold Oper.wp
  rcases hrun with hrun | hrun <;> rw [hrun] <;> exact ⟨_, h2, fun _ _ h hx => h.step hx, .inl rfl, h⟩
/-- an operation that only computes or reads, behind all quiet ones -/
theorem ZStep.valz {v : Value} (hw : Region.wanted o (yielded ops a.tmps) = true) (hr : ∀ w, Hp B w0 w L → (execOp a.eval o).run P w = .ok (.value v) w)
    (h : K (a.put o.dst v) (fun W => Hp B w0 W L)) : ZStep P ops F true K o a (fun W => Hp B w0 W L) := by
  refine .inl ⟨hw, fun w hS => ?_⟩
  unfold Oper.wp
  rw [hr w hS]
  exact ⟨_, hS, fun _ _ h hx => h.step hx, .inl rfl, h⟩
theorem wp_region_braidz_hp {a : Act} {w : World} {Q : Exit → Act → World → Prop} {id : Nat} {l : List Oper} (ms : List Mark) (z : Nat) (LF : List Item) (hm : P.follows .mixedOrders = true) (hlen : l.length = ms.length) (hok : braidZ l.toArray (mkOf ms) z = true)
    (hS : Hp B w0 w L) (hLF : ∀ w, Hp B w0 w L → Hp B w0 w LF)
    (h : Walk P l.toArray (fun W => Hp B w0 W LF) (fun a' => BraidZ P l.toArray (fun W => Hp B w0 W LF) (fun a w => Q .normal a w) z (braidsOf ms).length (braidsOf ms) a' (fun W => Hp B w0 W L)) ms l a) : (Code.region id l.toArray true).wp P Q a w :=
  wp_region_braidz ms z (fun W => Hp B w0 W LF) hm hlen hok hS (fun _ _ h hx => h.step hx) hLF h
end
end Go.Proofs.YtcpllhjhnfmepaaGreatDoor

/- copy and make under Hp, for elements of any size. For any program. -/
namespace Go.Proofs.YtcpllhjhnfmepaaGreatDoor
set_option linter.all false
open Go.RowKit
section
variable {P : Program} {ops : Array Oper} {F : World → Prop} {QN : Act → World → Prop} {B : Nat} {w0 w : World} {L : List Item} {o : Oper} {rest : List Oper} {a : Act}
theorem run_copy_any {t ty e : TypeId} {size bytes : Nat} (hE : Elem P t e size bytes) (g o dLen dCap : Nat) (ad : Addr) (sLen sCap : Nat) (cur : Array Value) (te : TypeId) (m : Nat) (hm : m = Nat.min sLen dLen) (cs : List Value) (hl : cs.length = m * size)
    (hg : w.heap[g]? = some (.cells cur te (0, 0))) (hsrc : ∀ j v, cs[j]? = some v → w.cell? (ad.add j) = some v) (hfit : o + cs.length ≤ cur.size) (h1 : ∀ v ∈ cs, v.oneCell' = true) :
    (Builtin.copy_ #[t, t] ty #[.slice (some ⟨g, o, none⟩) dLen dCap, .slice (some ad) sLen sCap]).run P w = .ok (goInt m) (w.setRow g (cur.toList.take o ++ cs ++ cur.toList.drop (o + cs.length)).toArray) := by
  obtain ⟨i, z, hi, hz, hsz, hby, hzs⟩ := hE.info
  have hf := run_firstCells_some (P := P) w size m ad sLen sCap cs hl hsrc
  have hst := run_storeCells_at P g o te cs 0 cur w hg (by simpa using hfit) h1
  simp [Builtin.copy_, run_underlying hE.under, Builtin.lenOf, sizeOf, typeInfo, hi, hsz, ← hm, hf, hst]
theorem take_splice {α : Type} (cur : List α) (k off : Nat) (xs cs : List α) (hx : cur.take k = xs) (hk : k ≤ cur.length) (h : off + cs.length ≤ k) : (cur.take off ++ cs ++ cur.drop (off + cs.length)).take k = splice xs off cs := by
  subst hx
  unfold splice
  apply List.ext_getElem?
  intro j
  rw [List.getElem?_take]
  by_cases hj : j < k
  · rw [if_pos hj]
    by_cases h1 : j < off
    · rw [List.getElem?_append_left (by simp; omega), List.getElem?_append_left (by simp; omega), List.getElem?_append_left (by simp; omega), List.getElem?_take_of_lt h1, List.getElem?_take_of_lt h1, List.getElem?_take_of_lt hj]
    · by_cases h2 : j < off + cs.length
      · rw [List.getElem?_append_left (by simp; omega), List.getElem?_append_right (by simp; omega), List.getElem?_append_right (by simp; omega), List.getElem?_append_left (by simp; omega)]
        simp only [List.length_take]
        congr 1; omega
      · rw [List.getElem?_append_right (by simp; omega), List.getElem?_append_right (by simp; omega), List.getElem?_append_right (by simp; omega)]
        simp only [List.length_append, List.length_take, List.getElem?_drop]
        rw [List.getElem?_take_of_lt (by omega)]
        congr 1; omega
  · rw [if_neg hj, List.getElem?_eq_none]
    simp only [List.length_append, List.length_take, List.length_drop]
    omega
theorem run_copy_hp {t ty e : TypeId} {size bytes n cap : Nat} {g : Nat} {xs : List Value} (hE : Elem P t e size bytes) (h : Hp B w0 w (.row e size (some ⟨g, 0, none⟩) n cap xs :: L)) (k dLen dCap : Nat) (ad : Addr) (sLen sCap m : Nat) (hm : m = Nat.min sLen dLen) (cs : List Value) (hl : cs.length = m * size)
    (hfit : (k + m) ≤ n) (hsrc : ∀ j v, cs[j]? = some v → w.cell? (ad.add j) = some v) (h1 : ∀ v ∈ cs, v.oneCell' = true) :
    ∃ w', (Builtin.copy_ #[t, t] ty #[.slice (some ⟨g, k * size, none⟩) dLen dCap, .slice (some ad) sLen sCap]).run P w = .ok (goInt m) w' ∧ Hp B w0 w' (.row e size (some ⟨g, 0, none⟩) n cap (splice xs (k * size) cs) :: L) := by
  have hown : w.ownsRow B e size (.slice (some ⟨g, 0, none⟩) n cap) n xs := h.head
  obtain ⟨hxl, hrest⟩ := hown
  rcases hrest with ⟨hv, _⟩ | ⟨g', cap', cur, hv, hbg, hg, hnc, hcm, hcs, htake⟩
  · cases hv
  · simp at hv
    obtain ⟨rfl, rfl⟩ := hv
    have e1 : (k + m) * size ≤ n * size := Nat.mul_le_mul_right _ hfit
    have e2 : n * size ≤ cap * size := Nat.mul_le_mul_right _ hnc
    rw [Nat.add_mul, ← hl] at e1
    have hr := run_copy_any (P := P) (ty := ty) hE g (k * size) dLen dCap ad sLen sCap cur e m hm cs hl hg hsrc (by omega) h1
    refine ⟨_, hr, h.turn (row := some g) ⟨rfl, rfl, rfl, by simp [World.setRow], fun j _ hj => setRow_other w g j _ (fun e => hj (by rw [e]))⟩ (.inr rfl) ⟨?_, .inr ⟨g, cap, _, rfl, hbg, setRow_heap w g cur _ e _ hg, hnc, hcm, ?_, ?_⟩⟩ (.inl rfl)⟩
    · rw [length_splice _ _ _ (by omega)]; exact hxl
    · simp only [List.size_toArray, List.length_append, List.length_take, List.length_drop, Array.length_toList]
      omega
    · exact take_splice _ _ _ _ _ htake (by simp; omega) (by omega)
theorem wpList_copy_hp {t e : TypeId} {size bytes n cap : Nat} {g : Nat} {xs : List Value} (hE : Elem P t e size bytes) {Q : Exit → Act → World → Prop} (hgd : o.guard = none) (d s : Operand) (ho : o.op = .call { callee := .builtin .copy, args := #[d, s], argTypes := #[t, t] })
    (h : Hp B w0 w (.row e size (some ⟨g, 0, none⟩) n cap xs :: L)) (k dLen dCap : Nat) (ad : Addr) (sLen sCap m : Nat) (hd : a.eval d = .slice (some ⟨g, k * size, none⟩) dLen dCap) (hs : a.eval s = .slice (some ad) sLen sCap) (hm : m = Nat.min sLen dLen) (cs : List Value) (hl : cs.length = m * size)
    (hfit : (k + m) ≤ n) (hsrc : ∀ j v, cs[j]? = some v → w.cell? (ad.add j) = some v) (h1 : ∀ v ∈ cs, v.oneCell' = true)
    (kk : ∀ w', Hp B w0 w' (.row e size (some ⟨g, 0, none⟩) n cap (splice xs (k * size) cs) :: L) → wpList P ops Q rest (a.put o.dst (.int .i64 (m : Int))) w') : wpList P ops Q (o :: rest) a w := by
  refine wpList_plain hgd fun K hK => ?_
  obtain ⟨w', hr, h2⟩ := run_copy_hp (P := P) (ty := o.type) hE h k dLen dCap ad sLen sCap m hm cs hl hfit hsrc h1
  unfold Oper.wp
  simp [execOp, ho, resolve, invoke, builtin, hd, hs, hr, Result.andThen]
  exact hK _ _ (kk w' h2)
theorem Chain.copy {t e : TypeId} {size bytes n cap : Nat} {g : Nat} {xs : List Value} (hE : Elem P t e size bytes) (hw : Region.wanted o (yielded ops a.tmps) = true) (d s : Operand) (ho : o.op = .call { callee := .builtin .copy, args := #[d, s], argTypes := #[t, t] })
    (k dLen dCap : Nat) (ad : Addr) (sLen sCap m : Nat) (hd : a.eval d = .slice (some ⟨g, k * size, none⟩) dLen dCap) (hs : a.eval s = .slice (some ad) sLen sCap) (hm : m = Nat.min sLen dLen) (cs : List Value) (hl : cs.length = m * size)
    (hfit : (k + m) ≤ n) (hsrc : ∀ w, Hp B w0 w (.row e size (some ⟨g, 0, none⟩) n cap xs :: L) → ∀ j v, cs[j]? = some v → w.cell? (ad.add j) = some v) (h1 : ∀ v ∈ cs, v.oneCell' = true)
    (hF : ∀ w, Hp B w0 w L → F w) (h : Chain P ops F QN rest (a.put o.dst (.int .i64 (m : Int))) (fun W => Hp B w0 W (.row e size (some ⟨g, 0, none⟩) n cap (splice xs (k * size) cs) :: L))) :
    Chain P ops F QN (o :: rest) a (fun W => Hp B w0 W (.row e size (some ⟨g, 0, none⟩) n cap xs :: L)) := by
  refine .inl ⟨hw, fun w hS => ?_⟩
  obtain ⟨w', hr, h2⟩ := run_copy_hp (P := P) (ty := o.type) hE hS k dLen dCap ad sLen sCap m hm cs hl hfit (hsrc w hS) h1
  unfold Oper.wp
  simp only [execOp, ho, resolve, invoke, builtin, Sem.run_bind, Sem.run_pure, Result.andThen_ok, List.map_toArray, List.map_cons, List.map_nil, hd, hs, hr]
  exact ⟨_, h2, fun _ _ h hx => h.step hx, fun W hW => hF W hW.tail, h⟩
/-- make of m elements of any size -/
theorem wpList_makeN_hp {t e : TypeId} {size bytes m : Nat} (hE : Elem P t e size bytes) {Q : Exit → Act → World → Prop} (hgd : o.guard = none) (x y : Operand)
    (ho : o.op = .makeSlice t x y) (h : Hp B w0 w L) (kl kc : IntKind) (X Y : Int) (hx : a.eval x = .int kl X) (hy : a.eval y = .int kc Y) (hX : X = (m : Int)) (hY : Y = (m : Int)) (hb : bytes * m ≤ 281474976710656) (hm : m ≤ 140737488355328)
    (k : ∀ g w' xs, xs.length = m * size → Hp B w0 w' (.row e size (some ⟨g, 0, none⟩) m m xs :: L) → wpList P ops Q rest (a.put o.dst (.slice (some ⟨g, 0, none⟩) m m)) w') : wpList P ops Q (o :: rest) a w := by
  obtain ⟨i, z', hi, hz', hsz, hby, hzs⟩ := hE.info
  refine wpList_make_full w hgd x y t ho B e i z' size hE.under hi hz' hsz kl kc X Y m hx hy hX hY (by rw [hby]; exact hb) (by unfold maxLen; omega) h.base fun w' hown hg => ?_
  exact k _ _ _ hown.1 ((h.grown hg).cons hown (h.fresh rfl (Nat.le_refl _)))
end
end Go.Proofs.YtcpllhjhnfmepaaGreatDoor

/- In place: a row is shrunk, appended to where there is room, cleared behind its end. For any program. -/
namespace Go.Proofs.YtcpllhjhnfmepaaGreatDoor
set_option linter.all false
open Go.RowKit
section
variable {P : Program} {ops : Array Oper} {F : World → Prop} {QN : Act → World → Prop} {B : Nat} {w0 w : World} {L : List Item} {o : Oper} {rest : List Oper} {a : Act}
theorem Hp.blkRow {e : TypeId} {size g n : Nat} {cs : List Value} (h : Hp B w0 w (.blk g cs e :: L)) (hl : cs.length = n * size) (hm : n ≤ 140737488355328) : Hp B w0 w (.row e size (some ⟨g, 0, none⟩) n n cs :: L) := by
  refine h.turn ((Ext.refl w).grownBy none) (.inl rfl) ⟨hl, .inr ⟨g, n, cs.toArray, rfl, h.head.1, h.head.2, Nat.le_refl _, by unfold maxLen; omega, by simpa using hl, ?_⟩⟩ (.inl rfl)
  rw [← hl]; simp
end
end Go.Proofs.YtcpllhjhnfmepaaGreatDoor

/- A region of quiet operations, of new blocks, and of a tail, under Hp. For any program. -/
namespace Go.Proofs.YtcpllhjhnfmepaaGreatDoor
set_option linter.all false
open Go.RowKit
section
variable {P : Program} {a : Act}
def itemsOf (bs : Nat → Nat) (ms : List Mark) (n : Nat) : List Item := (blksOf bs ms n).map fun b => .blk b.1 b.2.1 b.2.2
/-- **A region of quiet operations, of new blocks, and of a tail**, whatever order is drawn. -/
theorem wp_region_tail_hp {B : Nat} {w0 w : World} {L : List Item} {Q : Exit → Act → World → Prop} {id : Nat} {l : List Oper} (ms : List Mark) (hm : P.follows .mixedOrders = true) (hlen : l.length = ms.length) (hok : tailOk l.toArray (mkOf ms) = true)
    (hS : Hp B w0 w L) (h : Walk P l.toArray (fun W => Hp B w0 W L) (fun a' => ∀ (bs : Nat → Nat) (w' : World), Hp B w0 w' (itemsOf bs ms 0 ++ L) → ∀ QN : Exit → Act → World → Prop, (∀ a w, Q .normal a w → QN .normal a w) →
      wpList P l.toArray QN (tailsOf l ms) (putB bs l ms 0 a') w') ms l a) : (Code.region id l.toArray true).wp P Q a w := by
  obtain ⟨hd, hl⟩ := tailOk_fixed hok
  have hcl : ∀ W W', Hp B w0 W L → Ext W W' → Hp B w0 W' L := fun _ _ h hx => Hp.step h hx
  have hmk : ∀ j m, ms[j]? = some m → m = mkOf ms j := fun j m hj => by simp [mkOf, hj]
  obtain ⟨vsQ, _, hK, hst⟩ := Walk.values (mk := mkOf ms) hd (a0 := a) l ms 0 (fun _ => undef) (by simp) (by simp) (fun j m hj => by rw [Nat.zero_add]; exact hmk j m hj) (by
    have : frameQ l.toArray (mkOf ms) (fun _ => undef) a 0 = a := by
      unfold frameQ
      generalize l.toArray.size = n
      induction n with
      | zero => rfl
      | succ n ih => unfold frameOf; simpa using ih
    rw [this]; exact h)
  refine wp_region_any hm ?_
  have hxd : Ext w w.drew := (Ext.refl w).drew
  have key := phase1 (Q := Q) (a0 := a) (vsQ := vsQ) (ws := w) hok hcl (fun i o ho => hst i o (Nat.zero_le _) ho) (fun vs w' hvs hF hx hM QN hQN => ?_) l.toArray.size (Array.replicate l.toArray.size false) vsQ w.drew (by simp) (by
      have := List.length_filter_le (fun j => !(Array.replicate l.toArray.size false).getD j true) (List.range l.toArray.size)
      simpa using this) (fun i j hi => by rw [repl_false] at hi; cases hi) (fun i _ => repl_false _ _) (fun _ _ => rfl) (hcl w w.drew hS hxd) hxd ⟨(fun i cs t _ hi => by have hi : (Array.replicate l.toArray.size false).getD i false = true := hi; rw [repl_false] at hi; cases hi), (fun i j _ _ hi _ _ => by have hi : (Array.replicate l.toArray.size false).getD i false = true := hi; rw [repl_false] at hi; cases hi)⟩
  · rw [frame_congr (M := fun _ => false) l.toArray.size (fun j hj => repl_false _ _)] at key
    rw [show frameOf l.toArray vsQ (fun _ => false) a l.toArray.size = a from by
      generalize l.toArray.size = n
      induction n with
      | zero => rfl
      | succ n ih => unfold frameOf; simpa using ih] at key
    exact key
  · obtain ⟨bs, hbs⟩ : ∃ bs : Nat → Nat, ∀ i cs t, i < l.toArray.size → mkOf ms i = .a cs t → vs i = .pointer (some ⟨bs i, 0, none⟩) := ⟨fun i => match vs i with | .pointer (some p) => p.block | _ => 0, fun i cs t hi hmi => by
      obtain ⟨b, h1, _, _⟩ := hM.at_ i cs t hmi (by simpa using hi)
      simp only [h1]⟩
    have hin : ∀ j cs t, ms[j]? = some (.a cs t) → j < l.toArray.size ∧ mkOf ms j = .a cs t := fun j cs t hj => ⟨by
      have := (List.getElem?_eq_some_iff.1 hj).1
      simp; omega, by simp [mkOf, hj]⟩
    have hS' : Hp B w0 w' (itemsOf bs ms 0 ++ L) := by
      have hmem : ∀ x ∈ itemsOf bs ms 0, ∃ j cs ty, j < l.toArray.size ∧ mkOf ms j = .a cs ty ∧ x = .blk (bs j) cs ty ∧ w.heap.size ≤ bs j ∧ w'.heap[bs j]? = some (.cells cs.toArray ty (0, 0)) := fun x hx => by
        obtain ⟨y, hy, rfl⟩ := List.mem_map.1 hx
        obtain ⟨j, cs, ty, hj, rfl⟩ := mem_blks ms 0 hy
        obtain ⟨lj, mj⟩ := hin j cs ty hj
        obtain ⟨b, h1, h2, h3⟩ := hM.at_ j cs ty mj (by simpa using lj)
        rw [hbs j cs ty lj mj] at h1
        simp only [Value.pointer.injEq, Option.some.injEq, Addr.mk.injEq, and_true] at h1
        simp only [Nat.zero_add]
        exact ⟨j, cs, ty, lj, mj, rfl, by rw [h1]; exact h2, by rw [h1]; exact h3⟩
      refine ⟨hF.below, hF.base, List.pairwise_append.2 ⟨?_, hF.apart, fun x hx y hy => ?_⟩, fun x hx => ?_⟩
      · unfold itemsOf
        refine List.pairwise_map.2 ((blks_apart ms 0 fun i j hij ⟨c1, t1, hi⟩ ⟨c2, t2, hj⟩ => ?_).imp fun h => .inr (by simpa [Item.block] using h))
        rw [Nat.zero_add, Nat.zero_add]
        obtain ⟨li, mi⟩ := hin i c1 t1 hi
        obtain ⟨lj, mj⟩ := hin j c2 t2 hj
        intro e
        refine hM.ne i j (by rw [mi]; rfl) (by rw [mj]; rfl) (by simpa using li) (by simpa using lj) hij ?_
        rw [hbs i c1 t1 li mi, hbs j c2 t2 lj mj, e]
      · obtain ⟨j, cs, ty, _, _, rfl, h2, _⟩ := hmem x hx
        cases hyb : y.block with
        | none => exact clash.symm (.inl hyb)
        | some g =>
          right
          have := ((hS.own y hy).lt g hyb).2
          rw [hyb]
          simp only [Item.block, ne_eq, Option.some.injEq]
          omega
      · rcases List.mem_append.1 hx with hx | hx
        · obtain ⟨j, cs, ty, _, _, rfl, h2, h3⟩ := hmem x hx
          exact ⟨Nat.le_trans hS.base h2, h3⟩
        · exact hF.own x hx
    have hw := hK bs w' hS' QN hQN
    have e1 : frameQ l.toArray (mkOf ms) vsQ a l.toArray.size = frameOf l.toArray vs (fun j => (mkOf ms j).isQ || (decide (j < 0) && (mkOf ms j).isA)) a l.toArray.size := by
      unfold frameQ
      rw [frame_congr (M := fun j => (mkOf ms j).isQ || (decide (j < 0) && (mkOf ms j).isA)) l.toArray.size (fun j hj => by rw [show decide (j < l.toArray.size) = true by simpa using hj]; simp)]
      exact frame_vsL (fun i hi => by
        have : (mkOf ms i).isQ = true := by simpa using hi
        exact (hvs i this).symm) _
    rw [e1, putB_eq hd hbs l ms 0 hlen (by simp) (by simp) (fun j m hj => by rw [Nat.zero_add]; exact hmk j m hj)] at hw
    have e2 := tails_eq (ops := l.toArray) (mk := mkOf ms) l ms 0 hlen (by simp) (fun j m hj => by rw [Nat.zero_add]; exact hmk j m hj)
    rw [← List.range_eq_range'] at e2
    rw [show l.toArray.size = l.length by simp]
    rw [e2]
    exact hw
end
end Go.Proofs.YtcpllhjhnfmepaaGreatDoor

/- slices of strings: what their cells hold. -/
namespace Go.Proofs.YtcpllhjhnfmepaaGreatDoor
set_option linter.all false
set_option linter.unusedSimpArgs false
set_option linter.unusedVariables false
open Go.RowKit
abbrev strsV (l : List ByteArray) : List Value := l.map Value.string
/-- the slice at A reads as l -/
def RS (w : World) (A : Option Addr) (l : List ByteArray) : Prop := ∀ (k : Nat) (s : ByteArray), l[k]? = some s → ∃ b o : Nat, A = some ⟨b, o, none⟩ ∧ w.cell? ⟨b, o + k, none⟩ = some (.string s)
theorem RS.ext {w w' : World} {A : Option Addr} {l : List ByteArray} (h : RS w A l) (hx : Ext w w') : RS w' A l := fun k s hk => by
  obtain ⟨b, o, e, c⟩ := h k s hk
  exact ⟨b, o, e, hx.keeps c⟩
theorem Hp.rs {B : Nat} {w0 w : World} {L : List Item} {A : Option Addr} {n cap : Nat} {l : List ByteArray} (h : Hp B w0 w L) (i : Nat) (hi : L[i]? = some (.row 9 1 A n cap (strsV l))) : RS w A l := fun k s hk => by
  obtain ⟨g, rfl, c, _⟩ := h.rowCell i hi (j := k) (u := .string s) (by rw [List.getElem?_map, hk]; rfl)
  exact ⟨g, 0, rfl, by rw [Nat.zero_add]; exact c⟩
end Go.Proofs.YtcpllhjhnfmepaaGreatDoor
