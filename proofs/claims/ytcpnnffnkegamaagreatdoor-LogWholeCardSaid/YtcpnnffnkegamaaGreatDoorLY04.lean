/- Texts joined: a map from strings to strings that the call owns, nil or not; what it reads as; ranging over it. For any program. a map from strings to whatever values, as they are; made, written, looked into, ranged over. For any program. A region of quiet operations, of new blocks, and of a tail, under Hp. For any program. slices of numbers: what they hold; slices.Clone. slices of numbers: Contains, ContainsFunc, Sort; log.mask. slices.Grow of nothing, slices.Concat of two slices of numbers; ContainsFunc. -/
import Derived.Test.YtcpnnffnkegamaaGreatDoorLY03
import Derived.Test.YtcpnnffnkegamaaGreatDoorProg
import Derived.Test.YtcpnnffnkegamaaGreatDoorLY01
import Derived.Sort.OwnSortedInts
/- a map from strings to strings that the call owns, nil or not; what it reads as; ranging over it. For any program. -/
namespace Go.Proofs.YtcpnnffnkegamaaGreatDoor
set_option linter.all false
open Go.RowKit
open Go.Maps (Keyed)
/-- a string as a key, as an element -/
abbrev sk (s : ByteArray) : Lit := .string s.data.toList
abbrev sv (s : ByteArray) : DataW Unit := .lit (sk s)
theorem ba_eq {s t : ByteArray} (h : s.data.toList = t.data.toList) : s = t := by
  obtain ⟨⟨a⟩⟩ := s
  obtain ⟨⟨b⟩⟩ := t
  simp at h
  rw [h]
theorem sk_inj {s t : ByteArray} (h : sk s = sk t) : s = t := ba_eq (by injection h)
section
variable {P : Program} {ops : Array Oper} {Q : Exit → Act → World → Prop} {B : Nat} {w0 w w' : World} {L : List Item} {g n : Nat} {ob : Obj} {k e : TypeId} {D : DataW Unit} {o : Oper} {rest : List Oper} {a : Act} {mo : Option Nat}
/-- the map's object, if there is one; nil reads as empty -/
def MO (P : Program) (k e : TypeId) (n : Nat) (D : DataW Unit) (mo : Option Nat) (ob : Obj) : Prop := (mo = none ∧ D = .map []) ∨ (∃ g, mo = some g ∧ MFit P k e n D ob)
theorem MFit.isMap (hm : MFit P k e n D ob) : Maps.IsMap D := by
  obtain ⟨es, clock, rfl, h1, h2, h3⟩ := hm
  exact ⟨_, h3⟩
theorem MO.isMap (hm : MO P k e n D mo ob) : Maps.IsMap D := by
  rcases hm with ⟨_, rfl⟩ | ⟨g, _, hm⟩
  · exact Maps.isMap_empty
  · exact hm.isMap
/-- an iterator over the map at g, at its own block r -/
def RFit (P : Program) (k e : TypeId) (g n : Nat) (D : DataW Unit) (left : Lit → Bool) (cnt : Nat) (ob it : Obj) : Prop :=
  ∃ es clock since seen c0, ob = .map es clock ∧ Go.WideElems.Fit P k (plainElem (H := Unit) P e) es clock ∧ es.size ≤ n ∧ D = .map ((es.toList.map (Go.WideElems.rg P k (plainElem (H := Unit) P e))).foldr DataW.insert []) ∧
    it = .mapIter (some g) since seen c0 ∧ (∀ x ∈ es.toList, x.born < since) ∧ (leftOf es seen).size = cnt ∧
    (∀ x ∈ es.toList, left (Go.WideElems.rg P k (plainElem (H := Unit) P e) x).1 = !seen.contains x.born) ∧ (∀ kl, left kl = true → ∃ x ∈ es.toList, (Go.WideElems.rg P k (plainElem (H := Unit) P e) x).1 = kl) ∧ since ≤ c0 ∧ since ≤ clock

variable {left : Lit → Bool} {cnt r i j : Nat} {it : Obj}
theorem Hp.obAt (h : Hp B w0 w L) (hi : L[i]? = some (.ob g ob)) : w.heap[g]? = some ob := (h.own _ (List.mem_of_getElem? hi)).2
theorem Hp.ranges (h : Hp B w0 w L) (hi : L[i]? = some (.ob g ob)) (hj : L[j]? = some (.ob r it)) (hr : RFit P k e g n D left cnt ob it) : w.ranges P k (plainElem (H := Unit) P e) g r n D left cnt := by
  obtain ⟨es, clock, since, seen, c0, rfl, h1, h2, h3, rfl, h4⟩ := hr
  exact ⟨es, clock, since, seen, c0, h.obAt hi, h1, h2, h3, h.obAt hj, h4⟩
theorem key_str_inv (hk : P.underlying k = some .string) {key : Value} {kl : Lit} (h : keyOf P k key = some kl) : ∃ s : ByteArray, key = .string s ∧ kl = sk s ∧ s.size ≤ maxLen := by
  unfold keyOf mapKey at h
  rw [hk] at h
  cases key <;> simp at h
  rename_i s
  refine ⟨s, rfl, ?_, ?_⟩
  · exact h.2.symm
  · exact h.1
end
end Go.Proofs.YtcpnnffnkegamaaGreatDoor

/- a map from strings to whatever values, as they are; made, written, looked into, ranged over. For any program. -/
namespace Go.Proofs.YtcpnnffnkegamaaGreatDoor
set_option linter.all false
open Go.RowKit
open Go.Maps (Keyed)
/-- an element as it is -/
def heldV (v : Value) : Option (DataW Value × List MemPlace) := some (.held v, [])
/-- what is there -/
def vget (D : DataW Value) (s : ByteArray) (z : Value) : Value := match D.atKey (sk s) (.held z) with
  | .held v => v
  | _ => z
def vhas (D : DataW Value) (s : ByteArray) : Bool := Maps.has D (sk s)
def VFit (P : Program) (k : TypeId) (n : Nat) (D : DataW Value) (o : Obj) : Prop := ∃ es clock, o = .map es clock ∧ Go.WideElems.Fit P k heldV es clock ∧ es.size ≤ n ∧ D = .map ((es.toList.map (Go.WideElems.rg P k heldV)).foldr DataW.insert [])
theorem VFit.mono {P : Program} {k : TypeId} {n n' : Nat} {D : DataW Value} {o : Obj} (h : VFit P k n D o) (hn : n ≤ n') : VFit P k n' D o := by
  obtain ⟨es, clock, h0, h1, h2, h3⟩ := h
  exact ⟨es, clock, h0, h1, Nat.le_trans h2 hn, h3⟩
theorem VFit.isMap {P : Program} {k : TypeId} {n : Nat} {D : DataW Value} {o : Obj} (h : VFit P k n D o) : Maps.IsMap D := by
  obtain ⟨es, clock, h0, h1, h2, h3⟩ := h
  exact ⟨_, h3⟩
theorem vhas_put_same {D : DataW Value} (hD : Maps.IsMap D) (k : ByteArray) (v : Value) : vhas (D.put (sk k) (.held v)) k = true := Maps.has_put_same (k := sk k) hD trivial _
theorem vhas_put_other {D : DataW Value} {k k' : ByteArray} (h : k' ≠ k) (v : Value) : vhas (D.put (sk k) (.held v)) k' = vhas D k' := Maps.has_put_other (fun e => h (sk_inj e)) _
theorem vget_put_same {D : DataW Value} (hD : Maps.IsMap D) (k : ByteArray) (v z : Value) : vget (D.put (sk k) (.held v)) k z = v := by
  unfold vget
  rw [Maps.atKey_put_same (k := sk k) hD trivial]
theorem vget_put_other {D : DataW Value} {k k' : ByteArray} (h : k' ≠ k) (v z : Value) : vget (D.put (sk k) (.held v)) k' z = vget D k' z := by
  unfold vget
  rw [Maps.atKey_put_other (fun e => h (sk_inj e))]
theorem vhas_none (k : ByteArray) : vhas (.map []) k = false := rfl
section
variable {P : Program} {ops : Array Oper} {Q : Exit → Act → World → Prop} {B : Nat} {w0 w w' : World} {L : List Item} {g n : Nat} {ob : Obj} {k e : TypeId} {D : DataW Value} {o : Oper} {rest : List Oper} {a : Act}
theorem VFit.owns (hm : VFit P k n D ob) (hat : w.heap[g]? = some ob) : w.ownsMap P k heldV g n D := by
  obtain ⟨es, clock, rfl, h1, h2, h3⟩ := hm
  exact ⟨es, clock, hat, h1, h2, h3⟩
theorem Hp.vTurn {w' : World} {n' : Nat} {D' : DataW Value} (h : Hp B w0 w (.ob g ob :: L)) (hg : w.grownBy w' (some g)) (hm : w'.ownsMap P k heldV g n' D') : ∃ o', VFit P k n' D' o' ∧ Hp B w0 w' (.ob g o' :: L) := by
  obtain ⟨es, clock, h0, h1, h2, h3⟩ := hm
  exact ⟨.map es clock, ⟨es, clock, rfl, h1, h2, h3⟩, h.turn hg (.inr rfl) ⟨h.head.1, h0⟩ (.inl rfl)⟩
/-- 'make(map..)' -/
theorem wpList_makeMap_v {t : TypeId} (hgd : o.guard = none) (ho : o.op = .makeMap t none) (h : Hp B w0 w L)
    (kk : ∀ g w' ob, VFit P k 0 (.map []) ob → Hp B w0 w' (.ob g ob :: L) → wpList P ops Q rest (a.put o.dst (.map (some g))) w') : wpList P ops Q (o :: rest) a w := by
  refine wpList_plain hgd fun K hK => ?_
  obtain ⟨es, clock, h0, h1, h2, h3⟩ := World.ownsMap_made w P k heldV
  have hr : (Instr.makeMap t none).run P w = .ok (.map (some w.heap.size)) (w.alloc (.map #[] 0)) := rfl
  unfold Oper.wp execOp
  simp only [ho, Option.map_none, Sem.run_bind, Sem.run_pure, Result.andThen_ok, hr]
  exact hK _ _ (kk _ _ _ ⟨es, clock, rfl, h1, h2, h3⟩ ((h.old _).cons (x := .ob w.heap.size (.map es clock)) ⟨h.base, h0⟩ (h.fresh rfl (Nat.le_refl _))))
/-- 'm[x] = v', the map at place i -/
theorem wpList_mapPut_v {t : TypeId} (hgd : o.guard = none) (m x v : Operand) (hop : o.op = .mapUpdate t m x v ∨ o.op = .insert t m x v) (Ky : Keyed P k) (ht : P.underlying t = some (.map k e)) (i : Nat) (hf : VFit P k n D ob) (h : Hp B w0 w L) (hi : L[i]? = some (.ob g ob)) (hm : a.eval m = .map (some g)) (val : Value) (s : ByteArray) (hx : a.eval x = .string s) (hv : a.eval v = val) (hkey : keyOf P k (.string s) = some (sk s)) (hn : n < maxLen)
    (kk : ∀ ob' w', VFit P k (n + 1) (D.put (sk s) (.held val)) ob' → Hp B w0 w' (.ob g ob' :: L.eraseIdx i) → wpList P ops Q rest (a.put o.dst undef) w') : wpList P ops Q (o :: rest) a w := by
  refine wpList_plain hgd fun K hK => ?_
  have h' := h.front i hi
  obtain ⟨w', hrun, r1, r2⟩ := (hf.owns h'.head.2).update Ky ht hn hkey (show heldV val = some (.held val, []) from rfl)
  obtain ⟨ob', h1, h2⟩ := h'.vTurn r2 r1
  unfold Oper.wp
  rcases hop with hop | hop
  · simp [execOp, hop, hm, hx, hv, hrun, Result.andThen]
    exact hK _ _ (kk _ _ h1 h2)
  · simp [execOp, hop, hm, hx, hv, hrun, Result.andThen]
    exact hK _ _ (kk _ _ h1 h2)
theorem look_v {t : TypeId} (h : w.ownsMap P k heldV g n D) (Ky : Keyed P k) (ht : P.underlying t = some (.map k e)) {z : Value} (hz : (zeroValue e).run P w = .ok z w) (s : ByteArray) (hkey : keyOf P k (.string s) = some (sk s)) :
    (Instr.lookup t (.map (some g)) (.string s) true).run P w = .ok (.tuple #[vget D s z, .bool (vhas D s)]) w := by
  obtain ⟨v, ps, hrun, hv⟩ := h.look_ok Ky ht hz (show heldV z = some (.held z, []) from rfl) hkey
  rw [hrun]
  have hb : vget D s z = v := by
    have := congrArg Prod.fst (Option.some.inj hv)
    simp only at this
    unfold vget
    rw [← this]
  rw [hb]
  rfl
/-- 'v, ok := m[s]' -/
theorem wpList_lookup_v {t : TypeId} (hgd : o.guard = none) (m x : Operand) (hop : o.op = .lookup t m x true) (Ky : Keyed P k) (ht : P.underlying t = some (.map k e)) {z : Value} (hz : ∀ w, (zeroValue e).run P w = .ok z w) (hf : VFit P k n D ob) (hat : w.heap[g]? = some ob) (hm : a.eval m = .map (some g)) (s : ByteArray) (hx : a.eval x = .string s) (hkey : keyOf P k (.string s) = some (sk s))
    (kk : wpList P ops Q rest (a.put o.dst (.tuple #[vget D s z, .bool (vhas D s)])) w) : wpList P ops Q (o :: rest) a w := by
  refine wpList_plain hgd fun K hK => ?_
  have hrun := look_v (hf.owns hat) Ky ht (hz w) s hkey
  unfold Oper.wp
  simp [execOp, hop, hm, hx, hrun, Result.andThen]
  exact hK _ _ kk
theorem run_len_v {t : TypeId} (ht : P.underlying t = some (.map k e)) (hf : VFit P k n D ob) (hat : w.heap[g]? = some ob) (ty : TypeId) : (Builtin.len_ #[t] ty #[.map (some g)]).run P w = .ok (.int .i64 (Maps.size D)) w := (hf.owns hat).len ht ty
/-- an iterator over the map at g, at its own block -/
def WFit (P : Program) (k : TypeId) (g n : Nat) (D : DataW Value) (left : Lit → Bool) (cnt : Nat) (ob it : Obj) : Prop :=
  ∃ es clock since seen c0, ob = .map es clock ∧ Go.WideElems.Fit P k heldV es clock ∧ es.size ≤ n ∧ D = .map ((es.toList.map (Go.WideElems.rg P k heldV)).foldr DataW.insert []) ∧
    it = .mapIter (some g) since seen c0 ∧ (∀ x ∈ es.toList, x.born < since) ∧ (leftOf es seen).size = cnt ∧
    (∀ x ∈ es.toList, left (Go.WideElems.rg P k heldV x).1 = !seen.contains x.born) ∧ (∀ kl, left kl = true → ∃ x ∈ es.toList, (Go.WideElems.rg P k heldV x).1 = kl) ∧ since ≤ c0 ∧ since ≤ clock
variable {left : Lit → Bool} {cnt r j : Nat} {it : Obj}
theorem WFit.ranges (hr : WFit P k g n D left cnt ob it) (hat : w.heap[g]? = some ob) (hit : w.heap[r]? = some it) : w.ranges P k heldV g r n D left cnt := by
  obtain ⟨es, clock, since, seen, c0, rfl, h1, h2, h3, rfl, h4⟩ := hr
  exact ⟨es, clock, since, seen, c0, hat, h1, h2, h3, hit, h4⟩
theorem wfit_of {w' : World} (h : w'.ranges P k heldV g r n D left cnt) (hg : w'.heap[g]? = some ob) (hr : w'.heap[r]? = some it) : WFit P k g n D left cnt ob it := by
  obtain ⟨es, clock, since, seen, c0, h0, h1, h2, h3, h4, h5⟩ := h
  rw [hg] at h0
  rw [hr] at h4
  exact ⟨es, clock, since, seen, c0, Option.some.inj h0, h1, h2, h3, Option.some.inj h4, h5⟩
theorem wranges_it {w' : World} (h : w'.ranges P k heldV g r n D left cnt) : ∃ it, w'.heap[r]? = some it := by
  obtain ⟨es, clock, since, seen, c0, h0, h1, h2, h3, h4, h5⟩ := h
  exact ⟨_, h4⟩
/-- 'range m' -/
theorem wpList_range_v {t : TypeId} (hgd : o.guard = none) (m : Operand) (hop : o.op = Op.range t m) (Ky : Keyed P k) (ht : P.underlying t = some (.map k e)) (hf : VFit P k n D ob) (h : Hp B w0 w L) (hat : w.heap[g]? = some ob) (hm : a.eval m = .map (some g))
    (kk : ∀ r it w', WFit P k g n D (Maps.has D) (Maps.size D) ob it → Hp B w0 w' (.ob r it :: L) → wpList P ops Q rest (a.put o.dst (.pointer (some ⟨r, 0, none⟩))) w') : wpList P ops Q (o :: rest) a w := by
  refine wpList_range_own w hgd m t hop k e Ky ht _ g n D hm (hf.owns hat) fun w' hrg hgr hsz => ?_
  obtain ⟨it, hit⟩ := wranges_it hrg
  have h' := h.grown hgr
  exact kk _ it w' (wfit_of hrg (by rw [hgr.block g (Array.getElem?_eq_some_iff.1 hat).1 (by simp)]; exact hat) hit) (h'.cons (x := .ob w.heap.size it) ⟨h.base, hit⟩ (h.fresh rfl (Nat.le_refl _)))
/-- the range's step -/
theorem wpList_next_v (hgd : o.guard = none) (itr : Operand) (hop : o.op = Op.next itr false) (Ky : Keyed P k) (hk : P.underlying k = some .string) (j : Nat) (hr : WFit P k g n D left cnt ob it) (h : Hp B w0 w L) (hat : w.heap[g]? = some ob) (hj : L[j]? = some (.ob r it)) (hit : a.eval itr = .pointer (some ⟨r, 0, none⟩))
    (hDone : cnt = 0 → (∀ kl, left kl = false) → wpList P ops Q rest (a.put o.dst (.tuple #[.bool false])) w)
    (hMore : ∀ (x : ByteArray) (c : Value) (it' : Obj) (w' : World) (cnt' : Nat), x.size ≤ maxLen → left (sk x) = true → vhas D x = true → (∀ z, vget D x z = c) → WFit P k g n D (fun z => left z && !z.sameKey (sk x)) cnt' ob it' → cnt' < cnt → Hp B w0 w' (L.set j (.ob r it')) → (Instr.entry (.pointer (some ⟨r, 0, none⟩))).run P w' = .ok (.tuple #[.string x, c]) w' → wpList P ops Q rest (a.put o.dst (.tuple #[.bool true, .string x, c])) w') :
    wpList P ops Q (o :: rest) a w := by
  have hrg := hr.ranges hat (h.obAt hj)
  have hne : r ≠ g := hrg.ne
  refine wpList_next_ranges w hgd itr hop k Ky heldV Value.string id (fun key kl hkey => by obtain ⟨x, rfl, _⟩ := key_str_inv hk hkey; exact ⟨x, rfl⟩) (fun v y hv => ⟨v, rfl⟩)
    g r n D left cnt hit hrg hDone fun x c kl y w' cnt' hkey hlk hv hat' hrg1 hlt hgr hsz hen => ?_
  obtain ⟨x', ex, rfl, hxs⟩ := key_str_inv hk hkey
  cases ex
  obtain rfl := (Option.some.inj hv)
  obtain ⟨it', hit'⟩ := wranges_it hrg1
  have h1 := h.front j hj
  have h2 : Hp B w0 w' (.ob r it' :: L.eraseIdx j) := h1.turn hgr (.inr rfl) ⟨h1.head.1, hit'⟩ (.inl rfl)
  have h3 : Hp B w0 w' (L.set j (.ob r it')) := h2.perm (set_perm L j _ _ hj)
  have hg' : w'.heap[g]? = some ob := by
    rw [hgr.block g (Array.getElem?_eq_some_iff.1 hat).1 (by simpa using fun e => hne e.symm)]
    exact hat
  refine hMore x c it' w' cnt' hxs hlk ?_ ?_ (wfit_of hrg1 hg' hit') hlt h3 hen
  · exact Maps.has_true_of_atKey (y := .held c) hat'
  · intro z
    unfold vget
    rw [hat']
    rfl
end
end Go.Proofs.YtcpnnffnkegamaaGreatDoor

/- A region of quiet operations, of new blocks, and of a tail, under Hp. For any program. -/
namespace Go.Proofs.YtcpnnffnkegamaaGreatDoor
set_option linter.all false
open Go.RowKit
section
variable {P : Program} {a : Act}
def itemsOf (bs : Nat → Nat) (ms : List Mark) (n : Nat) : List Item := (blksOf bs ms n).map fun b => .blk b.1 b.2.1 b.2.2
/-- **A region of quiet operations, of new blocks, and of a tail**, whatever order is drawn. -/
theorem wp_region_tail_hp {B : Nat} {w0 w : World} {L : List Item} {Q : Exit → Act → World → Prop} {id : Nat} {l : List Oper} (ms : List Mark) (hm : P.follows .mixedOrders = true) (hlen : l.length = ms.length) (hok : tailOk l.toArray (mkOf ms) = true)
    (hS : Hp B w0 w L) (h : Walk P l.toArray (fun W => Hp B w0 W L) (fun a' => ∀ (bs : Nat → Nat) (w' : World), Hp B w0 w' (itemsOf bs ms 0 ++ L) → ∀ QN : Exit → Act → World → Prop, (∀ a w, Q .normal a w → QN .normal a w) →
      wpList P l.toArray QN (tailsOf l ms) (putB bs l ms 0 a') w') ms l a) : (Code.region id l.toArray true).wp P Q a w := by
  obtain ⟨hd, hl⟩ := tailOk_fixed hok
  have hcl : ∀ W W', Hp B w0 W L → Ext W W' → Hp B w0 W' L := fun _ _ h hx => Hp.step h hx
  have hmk : ∀ j m, ms[j]? = some m → m = mkOf ms j := fun j m hj => by simp [mkOf, hj]
  obtain ⟨vsQ, _, hK, hst⟩ := Walk.values (mk := mkOf ms) hd (a0 := a) l ms 0 (fun _ => undef) (by simp) (by simp) (fun j m hj => by rw [Nat.zero_add]; exact hmk j m hj) (by
    have : frameQ l.toArray (mkOf ms) (fun _ => undef) a 0 = a := by
      unfold frameQ
      generalize l.toArray.size = n
      induction n with
      | zero => rfl
      | succ n ih => unfold frameOf; simpa using ih
    rw [this]; exact h)
  refine wp_region_any hm ?_
  have hxd : Ext w w.drew := (Ext.refl w).drew
  have key := phase1 (Q := Q) (a0 := a) (vsQ := vsQ) (ws := w) hok hcl (fun i o ho => hst i o (Nat.zero_le _) ho) (fun vs w' hvs hF hx hM QN hQN => ?_) l.toArray.size (Array.replicate l.toArray.size false) vsQ w.drew (by simp) (by
      have := List.length_filter_le (fun j => !(Array.replicate l.toArray.size false).getD j true) (List.range l.toArray.size)
      simpa using this) (fun i j hi => by rw [repl_false] at hi; cases hi) (fun i _ => repl_false _ _) (fun _ _ => rfl) (hcl w w.drew hS hxd) hxd ⟨(fun i cs t _ hi => by have hi : (Array.replicate l.toArray.size false).getD i false = true := hi; rw [repl_false] at hi; cases hi), (fun i j _ _ hi _ _ => by have hi : (Array.replicate l.toArray.size false).getD i false = true := hi; rw [repl_false] at hi; cases hi)⟩
  · rw [frame_congr (M := fun _ => false) l.toArray.size (fun j hj => repl_false _ _)] at key
    rw [show frameOf l.toArray vsQ (fun _ => false) a l.toArray.size = a from by
      generalize l.toArray.size = n
      induction n with
      | zero => rfl
      | succ n ih => unfold frameOf; simpa using ih] at key
    exact key
  · obtain ⟨bs, hbs⟩ : ∃ bs : Nat → Nat, ∀ i cs t, i < l.toArray.size → mkOf ms i = .a cs t → vs i = .pointer (some ⟨bs i, 0, none⟩) := ⟨fun i => match vs i with | .pointer (some p) => p.block | _ => 0, fun i cs t hi hmi => by
      obtain ⟨b, h1, _, _⟩ := hM.at_ i cs t hmi (by simpa using hi)
      simp only [h1]⟩
    have hin : ∀ j cs t, ms[j]? = some (.a cs t) → j < l.toArray.size ∧ mkOf ms j = .a cs t := fun j cs t hj => ⟨by
      have := (List.getElem?_eq_some_iff.1 hj).1
      simp; omega, by simp [mkOf, hj]⟩
    have hS' : Hp B w0 w' (itemsOf bs ms 0 ++ L) := by
      have hmem : ∀ x ∈ itemsOf bs ms 0, ∃ j cs ty, j < l.toArray.size ∧ mkOf ms j = .a cs ty ∧ x = .blk (bs j) cs ty ∧ w.heap.size ≤ bs j ∧ w'.heap[bs j]? = some (.cells cs.toArray ty (0, 0)) := fun x hx => by
        obtain ⟨y, hy, rfl⟩ := List.mem_map.1 hx
        obtain ⟨j, cs, ty, hj, rfl⟩ := mem_blks ms 0 hy
        obtain ⟨lj, mj⟩ := hin j cs ty hj
        obtain ⟨b, h1, h2, h3⟩ := hM.at_ j cs ty mj (by simpa using lj)
        rw [hbs j cs ty lj mj] at h1
        simp only [Value.pointer.injEq, Option.some.injEq, Addr.mk.injEq, and_true] at h1
        simp only [Nat.zero_add]
        exact ⟨j, cs, ty, lj, mj, rfl, by rw [h1]; exact h2, by rw [h1]; exact h3⟩
      refine ⟨hF.below, hF.base, List.pairwise_append.2 ⟨?_, hF.apart, fun x hx y hy => ?_⟩, fun x hx => ?_⟩
      · unfold itemsOf
        refine List.pairwise_map.2 ((blks_apart ms 0 fun i j hij ⟨c1, t1, hi⟩ ⟨c2, t2, hj⟩ => ?_).imp fun h => .inr (by simpa [Item.block] using h))
        rw [Nat.zero_add, Nat.zero_add]
        obtain ⟨li, mi⟩ := hin i c1 t1 hi
        obtain ⟨lj, mj⟩ := hin j c2 t2 hj
        intro e
        refine hM.ne i j (by rw [mi]; rfl) (by rw [mj]; rfl) (by simpa using li) (by simpa using lj) hij ?_
        rw [hbs i c1 t1 li mi, hbs j c2 t2 lj mj, e]
      · obtain ⟨j, cs, ty, _, _, rfl, h2, _⟩ := hmem x hx
        cases hyb : y.block with
        | none => exact clash.symm (.inl hyb)
        | some g =>
          right
          have := ((hS.own y hy).lt g hyb).2
          rw [hyb]
          simp only [Item.block, ne_eq, Option.some.injEq]
          omega
      · rcases List.mem_append.1 hx with hx | hx
        · obtain ⟨j, cs, ty, _, _, rfl, h2, h3⟩ := hmem x hx
          exact ⟨Nat.le_trans hS.base h2, h3⟩
        · exact hF.own x hx
    have hw := hK bs w' hS' QN hQN
    have e1 : frameQ l.toArray (mkOf ms) vsQ a l.toArray.size = frameOf l.toArray vs (fun j => (mkOf ms j).isQ || (decide (j < 0) && (mkOf ms j).isA)) a l.toArray.size := by
      unfold frameQ
      rw [frame_congr (M := fun j => (mkOf ms j).isQ || (decide (j < 0) && (mkOf ms j).isA)) l.toArray.size (fun j hj => by rw [show decide (j < l.toArray.size) = true by simpa using hj]; simp)]
      exact frame_vsL (fun i hi => by
        have : (mkOf ms i).isQ = true := by simpa using hi
        exact (hvs i this).symm) _
    rw [e1, putB_eq hd hbs l ms 0 hlen (by simp) (by simp) (fun j m hj => by rw [Nat.zero_add]; exact hmk j m hj)] at hw
    have e2 := tails_eq (ops := l.toArray) (mk := mkOf ms) l ms 0 hlen (by simp) (fun j m hj => by rw [Nat.zero_add]; exact hmk j m hj)
    rw [← List.range_eq_range'] at e2
    rw [show l.toArray.size = l.length by simp]
    rw [e2]
    exact hw
end
end Go.Proofs.YtcpnnffnkegamaaGreatDoor

/- slices of numbers: what they hold; slices.Clone. -/
namespace Go.Proofs.YtcpnnffnkegamaaGreatDoor
set_option linter.all false
set_option linter.unusedSimpArgs false
set_option linter.unusedVariables false
open Go.RowKit
abbrev intsV (F : List Int) : List Value := F.map (Value.int .i64)
theorem Tryz.elem_ints : Elem Tryz.prog 41 3 1 8 := by
  obtain ⟨i0, hi0, hz0, hz1, hz2⟩ := info_parts (show (Tryz.prog.info? 3).map (fun i => (i.zero, i.size, i.bytes)) = some (some (.int .i64 0), 1, 8) by kernel_rfl)
  exact ⟨Tryz.underlying41, ⟨i0, _, hi0, hz0, hz1, hz2, rfl⟩, by omega⟩
/-- the slice at A reads as F -/
def RI (w : World) (A : Option Addr) (F : List Int) : Prop := ∀ (k : Nat) (x : Int), F[k]? = some x → ∃ b o : Nat, A = some ⟨b, o, none⟩ ∧ w.cell? ⟨b, o + k, none⟩ = some (.int .i64 x)
theorem RI.ext {w w' : World} {A : Option Addr} {l : List Int} (h : RI w A l) (hx : Ext w w') : RI w' A l := fun k s hk => by
  obtain ⟨b, o, e, c⟩ := h k s hk
  exact ⟨b, o, e, hx.keeps c⟩
theorem intsV_get (l : List Int) (k : Nat) : (intsV l)[k]? = l[k]?.map (Value.int .i64) := by simp [intsV]
theorem addr_plus (b o j : Nat) : (⟨b, o, none⟩ : Addr).add j = ⟨b, o + j, none⟩ := by unfold Addr.add; split <;> simp_all
set_option maxRecDepth 100000 in
set_option maxHeartbeats 8000000 in
theorem iclone_any (F : List Int) (A : Option Addr) (n cap : Nat) (hn : F.length = n) (h0 : A = none → cap = 0) (w : World) (hr : RI w A F) (hl : n ≤ 1000000) :
    Calls Tryz.prog 11 #[.slice A n cap] w fun e w' => ∃ A' cap', e = .returned (.slice A' n cap') ∧ Hp w.heap.size w w' [.row 3 1 A' n cap' (intsV F)] := by
  cases A with
  | none =>
    obtain rfl : cap = 0 := h0 rfl
    have hF : F = [] := by
      cases F with
      | nil => rfl
      | cons x l =>
        obtain ⟨b, o, e, _⟩ := hr 0 x rfl
        cases e
    subst hF
    obtain rfl : n = 0 := by simpa using hn.symm
    have hS := Hp.init w
    have he : ∀ w : World, (binOp .eql 41 (.slice none 0 0) (.slice none 0 0)).run Tryz.prog w = .ok (.bool true) w := fun _ => rfl
    go_enter Tryz.func11, Tryz.ntmps11
    go_wp2_with (first | ((with_reducible first | refine nhLa ?_ | refine nhLs ?_ | refine nhLd ?_ | refine nhCa ?_ | refine nhCs ?_ | refine nhCd ?_ | refine nhPa ?_ | refine nhPs ?_ | refine nhPd ?_ | refine nhKa ?_ | refine nhKs ?_ | refine nhKd ?_); ((try clear hF); clear hS; intro wk hS; (try simp only [List.set_cons_zero, List.set_cons_succ, heap_size, heap_set_size] at hS); ((try clear hF); (first | have hF := And.intro hS.facts (HRD.out _ (hS.sub (by first | simp | ((repeat (first | exact List.nil_sublist _ | exact List.Sublist.refl _ | with_reducible apply List.Sublist.cons₂ | apply List.Sublist.cons)))))) | have hF := And.intro hS.facts (hR.at hS.ext) | have hF := hS.facts); simp only [HFacts, cellFacts, RFacts, cellOnly, and_true, true_and, Nat.zero_add, Nat.reduceAdd] at hF))) | fail)
    go_ret
    exact ⟨none, 0, rfl, hS.nilRow _ _⟩
  | some ad =>
    have HC := Lib.hid (fun (W : World) (hx : Ext w W) (j : Nat) (u : Value) (hu : (intsV F)[j]? = some u) => show W.cell? (ad.add j) = some u from by
      rw [intsV_get] at hu
      obtain ⟨x, hx', rfl⟩ := Option.map_eq_some_iff.1 hu
      obtain ⟨b, o, e, c⟩ := (hr.ext hx) j x hx'
      obtain rfl := Option.some.inj e
      rw [addr_plus]
      exact c)
    have HL := Lib.hid (show (intsV F).length = n * 1 by rw [List.length_map, hn, Nat.mul_one])
    have H1 := Lib.hid (show ∀ u ∈ intsV F, u.oneCell' = true from fun u hu => by
      obtain ⟨x, _, rfl⟩ := List.mem_map.1 hu
      rfl)
    clear hr hn h0
    have hS := Hp.init w
    have he : ∀ w : World, (binOp .eql 41 (.slice (some ad) n cap) (.slice none 0 0)).run Tryz.prog w = .ok (.bool false) w := fun _ => rfl
    go_enter Tryz.func11, Tryz.ntmps11
    go_wp2_with (first | ((with_reducible first | refine nhLa ?_ | refine nhLs ?_ | refine nhLd ?_ | refine nhCa ?_ | refine nhCs ?_ | refine nhCd ?_ | refine nhPa ?_ | refine nhPs ?_ | refine nhPd ?_ | refine nhKa ?_ | refine nhKs ?_ | refine nhKd ?_); ((try clear hF); clear hS; intro wk hS; (try simp only [List.set_cons_zero, List.set_cons_succ, heap_size, heap_set_size] at hS); ((try clear hF); (first | have hF := And.intro hS.facts (HRD.out _ (hS.sub (by first | simp | ((repeat (first | exact List.nil_sublist _ | exact List.Sublist.refl _ | with_reducible apply List.Sublist.cons₂ | apply List.Sublist.cons)))))) | have hF := And.intro hS.facts (hR.at hS.ext) | have hF := hS.facts); simp only [HFacts, cellFacts, RFacts, cellOnly, and_true, true_and, Nat.zero_add, Nat.reduceAdd] at hF))) | (at_builtin; refine wpList_append_hp Tryz.elem_ints rfl (.tmp 5) (.tmp 6) rfl (hS.blkRow (size := 1) (n := 0) rfl (by omega)) rfl ad rfl (news := intsV F) HL.out (fun j u hu => HC.out _ hS.ext j u hu) H1.out (by omega) (by omega) ?_; clear hS; intro A' cap' wk hS; ((try clear hF); (first | have hF := And.intro hS.facts (HRD.out _ (hS.sub (by first | simp | ((repeat (first | exact List.nil_sublist _ | exact List.Sublist.refl _ | with_reducible apply List.Sublist.cons₂ | apply List.Sublist.cons)))))) | have hF := And.intro hS.facts (hR.at hS.ext) | have hF := hS.facts); simp only [HFacts, cellFacts, RFacts, cellOnly, and_true, true_and, Nat.zero_add, Nat.reduceAdd] at hF)))
    go_ret
    exact ⟨A', cap', rfl, by simpa using hS⟩
end Go.Proofs.YtcpnnffnkegamaaGreatDoor

/- slices of numbers: Contains, ContainsFunc, Sort; log.mask. -/
namespace Go.Proofs.YtcpnnffnkegamaaGreatDoor
set_option linter.unusedSimpArgs false
set_option linter.unusedVariables false
open Go.RowKit
set_option linter.all false
open Go.Sort
theorem RI.some {w : World} {A : Option Addr} {l : List Int} (h : RI w A l) (h1 : 0 < l.length) : ∃ b o, A = some ⟨b, o, none⟩ ∧ ∀ j, j < l.length → w.cell? ⟨b, o + j, none⟩ = some (.int .i64 (l.getD j 0)) := by
  obtain ⟨b, o, e, _⟩ := h 0 (l[0]'h1) (List.getElem?_eq_getElem _)
  refine ⟨b, o, e, fun j hj => ?_⟩
  obtain ⟨b2, o2, e2, c⟩ := h j (l[j]'hj) (List.getElem?_eq_getElem _)
  rw [e] at e2
  obtain ⟨rfl, rfl⟩ : b = b2 ∧ o = o2 := by simpa using e2
  rw [List.getD_eq_getElem?_getD, List.getElem?_eq_getElem hj]
  exact c
theorem icontains_any {l : List Int} {A : Option Addr} {n cap : Nat} {x : Int} {w : World} (hn : l.length = n) (hl : n ≤ 1000000) (hr : RI w A l) :
    Calls Tryz.prog 66 #[.slice A n cap, .int .i64 x] w fun e w' => e = .returned (.bool (l.contains x)) ∧ Ext w w' := by
  rcases Nat.eq_zero_or_pos n with h0 | h0
  · subst h0
    have : l = [] := List.eq_nil_of_length_eq_zero hn
    subst this
    exact (Tryz.slices_Contains_int_empty A cap x w).mono fun e w' ⟨h1, h2⟩ => ⟨h1, h2 ▸ Ext.refl w⟩
  · obtain ⟨b, o, rfl, hc⟩ := hr.some (by omega)
    have := Tryz.slices_Contains_int b o n cap l x w (by omega) (by omega) hc
    rw [List.take_of_length_le (by omega)] at this
    exact this.mono fun e w' ⟨h1, h2⟩ => ⟨h1, h2 ▸ Ext.refl w⟩
theorem iequal_any {l m : List Int} {A A2 : Option Addr} {n k cap cap2 : Nat} {w : World} (hn : l.length = n) (hk : m.length = k) (hl : n ≤ 1000000) (hl2 : k ≤ 1000000) (hr : RI w A l) (hr2 : RI w A2 m) :
    Calls Tryz.prog 12 #[.slice A n cap, .slice A2 k cap2] w fun e w' => e = .returned (.bool (l == m)) ∧ Ext w w' := by
  by_cases hnk : n = k
  · subst hnk
    rcases Nat.eq_zero_or_pos n with h0 | h0
    · subst h0
      have e1 : l = [] := List.eq_nil_of_length_eq_zero hn
      have e2 : m = [] := List.eq_nil_of_length_eq_zero hk
      subst e1 e2
      exact (Tryz.slices_Equal_int_empty A A2 cap 0 cap2 w (by omega)).mono fun e w' ⟨h1, h2⟩ => ⟨h1, h2 ▸ Ext.refl w⟩
    · obtain ⟨b, o, rfl, hc⟩ := hr.some (by omega)
      obtain ⟨b2, o2, rfl, hc2⟩ := hr2.some (by omega)
      have := Tryz.slices_Equal_int b o n cap b2 o2 n cap2 l m w (by omega) (by omega) (by omega) (by omega) hc hc2
      rw [List.take_of_length_le (by omega), List.take_of_length_le (by omega)] at this
      exact this.mono fun e w' ⟨h1, q, h2⟩ => ⟨h1, h2 ▸ (Ext.refl w).drewN q⟩
  · refine (Tryz.slices_Equal_int_lens A A2 n cap k cap2 w hnk).mono fun e w' ⟨h1, h2⟩ => ⟨?_, h2 ▸ Ext.refl w⟩
    rw [h1, show (l == m) = false by
      rw [beq_eq_false_iff_ne]
      intro e
      rw [e] at hn
      omega]
/-- places that may be masked -/
def maskFrom (rows : Int) : Int → List Int → Bool
  | _, [] => true
  | p, x :: l => decide (0 ≤ x) && decide (x < rows) && decide (p < x) && maskFrom rows x l
def maskB (l : List Int) (rows : Int) : Bool := maskFrom rows (-1) l
def idxI (p : Int → Bool) : Nat → List Int → Int
  | _, [] => -1
  | k, x :: l => if p x then k else idxI p (k + 1) l
theorem idxI_any (p : Int → Bool) : ∀ (l : List Int) (k : Nat), decide (0 ≤ idxI p k l) = l.any p
  | [], k => rfl
  | x :: l, k => by
    unfold idxI
    rw [List.any_cons]
    cases hp : p x with
    | true => simp
    | false => simpa [hp] using idxI_any p l (k + 1)
theorem dropI_cons {l : List Int} {k : Nat} {x : Int} (h : l[k]? = some x) : l.drop k = x :: l.drop (k + 1) := by
  obtain ⟨h1, h2⟩ := List.getElem?_eq_some_iff.1 h
  rw [List.drop_eq_getElem_cons h1, h2]
set_option maxRecDepth 100000 in
set_option maxHeartbeats 8000000 in
theorem mask_any (l : List Int) (A : Option Addr) (n cap : Nat) (rows : Int) (w : World) (hn : l.length = n) (hl : n ≤ 1000000) (hr : RI w A l) :
    Calls Tryz.prog 33 #[.slice A n cap, .int .i64 rows] w fun e w' => e = .returned (.bool (maskB l rows)) ∧ Ext w w' := by
  have Hn := Lib.hid hn
  obtain ⟨D, hD⟩ : ∃ D, D = maskB l rows := ⟨_, rfl⟩
  rw [← hD]
  have HD := Lib.hid hD
  clear hn hD
  have hS := Hp.init w
  have hR := Reads.nil w
  go_enter Tryz.func33, Tryz.ntmps33
  go_wp2_with (first | ((with_reducible first | refine nhLa ?_ | refine nhLs ?_ | refine nhLd ?_ | refine nhCa ?_ | refine nhCs ?_ | refine nhCd ?_ | refine nhPa ?_ | refine nhPs ?_ | refine nhPd ?_ | refine nhKa ?_ | refine nhKs ?_ | refine nhKd ?_); ((try clear hF); clear hS; intro wk hS; (try simp only [List.set_cons_zero, List.set_cons_succ, heap_size, heap_set_size] at hS); ((try clear hF); (first | have hF := And.intro hS.facts (HRD.out _ (hS.sub (by first | simp | ((repeat (first | exact List.nil_sublist _ | exact List.Sublist.refl _ | with_reducible apply List.Sublist.cons₂ | apply List.Sublist.cons)))))) | have hF := And.intro hS.facts (hR.at hS.ext) | have hF := hS.facts); simp only [HFacts, cellFacts, RFacts, cellOnly, and_true, true_and, Nat.zero_add, Nat.reduceAdd] at hF))) | fail)
  go_loopw [9] (fun i wr => ∃ (k : Nat), i = .int .i64 k ∧ k ≤ n ∧ Hid (D = maskFrom rows (if k = 0 then -1 else l.getD (k - 1) 0) (l.drop k)) ∧ Hp w.heap.size w wr []) (fun i _ => n - (intOf i).toNat)
  case atStart => exact ⟨0, rfl, Nat.zero_le _, Lib.hid (by rw [HD.out, if_pos rfl, List.drop_zero]; rfl), hS⟩
  case round =>
    clear hS
    obtain ⟨k, rfl, hk, HDK, hS⟩ := hrel
    by_cases hlt : k < n
    · obtain ⟨x, hx⟩ : ∃ x, l[k]? = some x := ⟨l[k]'(by rw [Hn.out]; exact hlt), List.getElem?_eq_getElem _⟩
      obtain ⟨b, o, rfl, c0⟩ := hr k x hx
      have HDG := Lib.hid (show D = (decide (0 ≤ x) && decide (x < rows) && decide ((if k = 0 then -1 else l.getD (k - 1) 0) < x) && maskFrom rows x (l.drop (k + 1))) by rw [HDK.out, dropI_cons hx]; rfl)
      have hxg : l.getD k 0 = x := by rw [List.getD_eq_getElem?_getD, hx]; rfl
      clear hR
      by_cases x0 : x < 0
      · have hD2 : D = false := by rw [HDG.out, decide_eq_false (show ¬ 0 ≤ x by omega)]; simp
        subst hD2
        have hR := Reads.cell c0 (Reads.nil w)
        ((try clear hF); (first | have hF := And.intro hS.facts (HRD.out _ (hS.sub (by first | simp | ((repeat (first | exact List.nil_sublist _ | exact List.Sublist.refl _ | with_reducible apply List.Sublist.cons₂ | apply List.Sublist.cons)))))) | have hF := And.intro hS.facts (hR.at hS.ext) | have hF := hS.facts); simp only [HFacts, cellFacts, RFacts, cellOnly, and_true, true_and, Nat.zero_add, Nat.reduceAdd] at hF)
        go_wp2_with (first | ((with_reducible first | refine nhLa ?_ | refine nhLs ?_ | refine nhLd ?_ | refine nhCa ?_ | refine nhCs ?_ | refine nhCd ?_ | refine nhPa ?_ | refine nhPs ?_ | refine nhPd ?_ | refine nhKa ?_ | refine nhKs ?_ | refine nhKd ?_); ((try clear hF); clear hS; intro wk hS; (try simp only [List.set_cons_zero, List.set_cons_succ, heap_size, heap_set_size] at hS); ((try clear hF); (first | have hF := And.intro hS.facts (HRD.out _ (hS.sub (by first | simp | ((repeat (first | exact List.nil_sublist _ | exact List.Sublist.refl _ | with_reducible apply List.Sublist.cons₂ | apply List.Sublist.cons)))))) | have hF := And.intro hS.facts (hR.at hS.ext) | have hF := hS.facts); simp only [HFacts, cellFacts, RFacts, cellOnly, and_true, true_and, Nat.zero_add, Nat.reduceAdd] at hF))) | fail)
        go_ret
        exact ⟨rfl, hS.ext⟩
      by_cases x1 : rows ≤ x
      · have hD2 : D = false := by rw [HDG.out, decide_eq_false (show ¬ x < rows by omega)]; simp
        subst hD2
        have hR := Reads.cell c0 (Reads.nil w)
        ((try clear hF); (first | have hF := And.intro hS.facts (HRD.out _ (hS.sub (by first | simp | ((repeat (first | exact List.nil_sublist _ | exact List.Sublist.refl _ | with_reducible apply List.Sublist.cons₂ | apply List.Sublist.cons)))))) | have hF := And.intro hS.facts (hR.at hS.ext) | have hF := hS.facts); simp only [HFacts, cellFacts, RFacts, cellOnly, and_true, true_and, Nat.zero_add, Nat.reduceAdd] at hF)
        go_wp2_with (first | ((with_reducible first | refine nhLa ?_ | refine nhLs ?_ | refine nhLd ?_ | refine nhCa ?_ | refine nhCs ?_ | refine nhCd ?_ | refine nhPa ?_ | refine nhPs ?_ | refine nhPd ?_ | refine nhKa ?_ | refine nhKs ?_ | refine nhKd ?_); ((try clear hF); clear hS; intro wk hS; (try simp only [List.set_cons_zero, List.set_cons_succ, heap_size, heap_set_size] at hS); ((try clear hF); (first | have hF := And.intro hS.facts (HRD.out _ (hS.sub (by first | simp | ((repeat (first | exact List.nil_sublist _ | exact List.Sublist.refl _ | with_reducible apply List.Sublist.cons₂ | apply List.Sublist.cons)))))) | have hF := And.intro hS.facts (hR.at hS.ext) | have hF := hS.facts); simp only [HFacts, cellFacts, RFacts, cellOnly, and_true, true_and, Nat.zero_add, Nat.reduceAdd] at hF))) | fail)
        go_ret
        exact ⟨rfl, hS.ext⟩
      by_cases k0 : k = 0
      · subst k0
        simp only [Nat.add_zero] at c0
        have hR := Reads.cell c0 (Reads.nil w)
        ((try clear hF); (first | have hF := And.intro hS.facts (HRD.out _ (hS.sub (by first | simp | ((repeat (first | exact List.nil_sublist _ | exact List.Sublist.refl _ | with_reducible apply List.Sublist.cons₂ | apply List.Sublist.cons)))))) | have hF := And.intro hS.facts (hR.at hS.ext) | have hF := hS.facts); simp only [HFacts, cellFacts, RFacts, cellOnly, and_true, true_and, Nat.zero_add, Nat.reduceAdd] at hF)
        go_wp2_with (first | ((with_reducible first | refine nhLa ?_ | refine nhLs ?_ | refine nhLd ?_ | refine nhCa ?_ | refine nhCs ?_ | refine nhCd ?_ | refine nhPa ?_ | refine nhPs ?_ | refine nhPd ?_ | refine nhKa ?_ | refine nhKs ?_ | refine nhKd ?_); ((try clear hF); clear hS; intro wk hS; (try simp only [List.set_cons_zero, List.set_cons_succ, heap_size, heap_set_size] at hS); ((try clear hF); (first | have hF := And.intro hS.facts (HRD.out _ (hS.sub (by first | simp | ((repeat (first | exact List.nil_sublist _ | exact List.Sublist.refl _ | with_reducible apply List.Sublist.cons₂ | apply List.Sublist.cons)))))) | have hF := And.intro hS.facts (hR.at hS.ext) | have hF := hS.facts); simp only [HFacts, cellFacts, RFacts, cellOnly, and_true, true_and, Nat.zero_add, Nat.reduceAdd] at hF))) | fail)
        go_roundw
        case rel => exact ⟨1, by go_num, by omega, Lib.hid (by rw [HDG.out, if_pos rfl, decide_eq_true (show 0 ≤ x by omega), decide_eq_true (show x < rows by omega), decide_eq_true (show -1 < x by omega), if_neg (by omega), hxg]; simp), hS⟩
        case measure => simp [intOf]; omega
      · obtain ⟨y, hy⟩ : ∃ y, l[k - 1]? = some y := ⟨l[k - 1]'(by rw [Hn.out]; omega), List.getElem?_eq_getElem _⟩
        obtain ⟨b1, o1, hA, d0⟩ := hr (k - 1) y hy
        obtain ⟨rfl, rfl⟩ : b = b1 ∧ o = o1 := by simpa using hA
        have hyg : l.getD (k - 1) 0 = y := by rw [List.getD_eq_getElem?_getD, hy]; rfl
        rw [if_neg k0, hyg] at HDG
        have hR := Reads.cell c0 (Reads.cell d0 (Reads.nil w))
        have hk1 : 0 < (k : Int) := by omega
        have e1 : IntKind.i64.wrap ((k : Int) - 1) = ((k - 1 : Nat) : Int) := by rw [IntWalk.i64_in _ (by omega)]; omega
        by_cases hyx : x ≤ y
        · have hD2 : D = false := by rw [HDG.out, decide_eq_false (show ¬ y < x by omega)]; simp
          subst hD2
          ((try clear hF); (first | have hF := And.intro hS.facts (HRD.out _ (hS.sub (by first | simp | ((repeat (first | exact List.nil_sublist _ | exact List.Sublist.refl _ | with_reducible apply List.Sublist.cons₂ | apply List.Sublist.cons)))))) | have hF := And.intro hS.facts (hR.at hS.ext) | have hF := hS.facts); simp only [HFacts, cellFacts, RFacts, cellOnly, and_true, true_and, Nat.zero_add, Nat.reduceAdd] at hF)
          go_wp2_with (first | ((with_reducible first | refine nhLa ?_ | refine nhLs ?_ | refine nhLd ?_ | refine nhCa ?_ | refine nhCs ?_ | refine nhCd ?_ | refine nhPa ?_ | refine nhPs ?_ | refine nhPd ?_ | refine nhKa ?_ | refine nhKs ?_ | refine nhKd ?_); ((try clear hF); clear hS; intro wk hS; (try simp only [List.set_cons_zero, List.set_cons_succ, heap_size, heap_set_size] at hS); ((try clear hF); (first | have hF := And.intro hS.facts (HRD.out _ (hS.sub (by first | simp | ((repeat (first | exact List.nil_sublist _ | exact List.Sublist.refl _ | with_reducible apply List.Sublist.cons₂ | apply List.Sublist.cons)))))) | have hF := And.intro hS.facts (hR.at hS.ext) | have hF := hS.facts); simp only [HFacts, cellFacts, RFacts, cellOnly, and_true, true_and, Nat.zero_add, Nat.reduceAdd] at hF))) | fail)
          go_ret
          exact ⟨rfl, hS.ext⟩
        · skip
          ((try clear hF); (first | have hF := And.intro hS.facts (HRD.out _ (hS.sub (by first | simp | ((repeat (first | exact List.nil_sublist _ | exact List.Sublist.refl _ | with_reducible apply List.Sublist.cons₂ | apply List.Sublist.cons)))))) | have hF := And.intro hS.facts (hR.at hS.ext) | have hF := hS.facts); simp only [HFacts, cellFacts, RFacts, cellOnly, and_true, true_and, Nat.zero_add, Nat.reduceAdd] at hF)
          go_wp2_with (first | ((with_reducible first | refine nhLa ?_ | refine nhLs ?_ | refine nhLd ?_ | refine nhCa ?_ | refine nhCs ?_ | refine nhCd ?_ | refine nhPa ?_ | refine nhPs ?_ | refine nhPd ?_ | refine nhKa ?_ | refine nhKs ?_ | refine nhKd ?_); ((try clear hF); clear hS; intro wk hS; (try simp only [List.set_cons_zero, List.set_cons_succ, heap_size, heap_set_size] at hS); ((try clear hF); (first | have hF := And.intro hS.facts (HRD.out _ (hS.sub (by first | simp | ((repeat (first | exact List.nil_sublist _ | exact List.Sublist.refl _ | with_reducible apply List.Sublist.cons₂ | apply List.Sublist.cons)))))) | have hF := And.intro hS.facts (hR.at hS.ext) | have hF := hS.facts); simp only [HFacts, cellFacts, RFacts, cellOnly, and_true, true_and, Nat.zero_add, Nat.reduceAdd] at hF))) | fail)
          go_roundw
          case rel => exact ⟨k + 1, by go_num, by omega, Lib.hid (by rw [HDG.out, decide_eq_true (show 0 ≤ x by omega), decide_eq_true (show x < rows by omega), decide_eq_true (show y < x by omega), if_neg (by omega), Nat.add_sub_cancel, hxg]; simp), hS⟩
          case measure => simp [intOf]; omega
    · obtain rfl : n = k := by omega
      have hD2 : D = true := by rw [HDK.out, List.drop_eq_nil_of_le (by rw [Hn.out]; omega)]; rfl
      subst hD2
      ((try clear hF); (first | have hF := And.intro hS.facts (HRD.out _ (hS.sub (by first | simp | ((repeat (first | exact List.nil_sublist _ | exact List.Sublist.refl _ | with_reducible apply List.Sublist.cons₂ | apply List.Sublist.cons)))))) | have hF := And.intro hS.facts (hR.at hS.ext) | have hF := hS.facts); simp only [HFacts, cellFacts, RFacts, cellOnly, and_true, true_and, Nat.zero_add, Nat.reduceAdd] at hF)
      go_wp2_with (first | ((with_reducible first | refine nhLa ?_ | refine nhLs ?_ | refine nhLd ?_ | refine nhCa ?_ | refine nhCs ?_ | refine nhCd ?_ | refine nhPa ?_ | refine nhPs ?_ | refine nhPd ?_ | refine nhKa ?_ | refine nhKs ?_ | refine nhKd ?_); ((try clear hF); clear hS; intro wk hS; (try simp only [List.set_cons_zero, List.set_cons_succ, heap_size, heap_set_size] at hS); ((try clear hF); (first | have hF := And.intro hS.facts (HRD.out _ (hS.sub (by first | simp | ((repeat (first | exact List.nil_sublist _ | exact List.Sublist.refl _ | with_reducible apply List.Sublist.cons₂ | apply List.Sublist.cons)))))) | have hF := And.intro hS.facts (hR.at hS.ext) | have hF := hS.facts); simp only [HFacts, cellFacts, RFacts, cellOnly, and_true, true_and, Nat.zero_add, Nat.reduceAdd] at hF))) | fail)
      go_ret
      exact ⟨rfl, hS.ext⟩
/-- numbers, in order -/
def sortI (l : List Int) : List Int := l.mergeSort fun x y => decide (x ≤ y)
theorem sortI_len (l : List Int) : (sortI l).length = l.length := by simp [sortI]
set_option maxHeartbeats 8000000 in
/-- slices.Sort -/
theorem isort_any {B : Nat} {w0 w : World} {L : List Item} {A : Option Addr} {m cap : Nat} (l : List Int) (hm : l.length = m) (hl : m ≤ 1000000000) (hS : Hp B w0 w (.row 3 1 A m cap (intsV l) :: L)) :
    Calls Tryz.prog 68 #[.slice A m cap] w fun e w' => e = .returned (.tuple #[]) ∧ Hp B w0 w' (.row 3 1 A m cap (intsV (sortI l)) :: L) := by
  have hown : w.ownsRow B 3 1 (.slice A m cap) m (intsV l) := hS.head
  rcases hown.2 with ⟨hv, h0⟩ | ⟨g, cp, cur, hv, hbase, hgb, r1, r2, r3, r4⟩
  · obtain ⟨rfl, rfl, rfl⟩ : A = none ∧ m = 0 ∧ cap = 0 := by simpa using hv
    have hn : l = [] := List.eq_nil_of_length_eq_zero hm
    subst hn
    refine (Tryz.slices_Sort_int_none none 0 w).mono ?_
    rintro e w' ⟨rfl, rfl⟩
    refine ⟨rfl, ?_⟩
    rw [show sortI [] = [] from by simp [sortI]]
    exact hS
  · obtain ⟨rfl, _, rfl⟩ : A = some ⟨g, 0, none⟩ ∧ m = m ∧ cap = cp := by simpa using hv
    have hH : Holds (Value.int .i64) w g 0 l.toArray := holds_of_blockI hgb (by rw [hm]; simpa using r4)
    have hgl : g < w.heap.size := (Array.getElem?_eq_some_iff.1 hgb).1
    have cS := Tryz.slices_Sort_int g 0 cap l w hH hgl (by rw [hm]; omega)
    rw [hm] at cS
    refine cS.mono ?_
    rintro e w' ⟨rfl, nn, os, rfl⟩
    refine ⟨rfl, hS.turn (row := some g) (grownBy_sortedI _) (.inr rfl) ?_ (.inl rfl)⟩
    have := ownsRow_sortedI (n := nn) (os := os) (ss := l) (ts := l.mergeSort fun x y => decide (x ≤ y)) (by simp) hbase hgb (by rw [hm]; exact r1) r2 r3
    rw [hm] at this
    exact this
end Go.Proofs.YtcpnnffnkegamaaGreatDoor

/- slices.Grow of nothing, slices.Concat of two slices of numbers; ContainsFunc. -/
namespace Go.Proofs.YtcpnnffnkegamaaGreatDoor
set_option linter.unusedSimpArgs false
set_option linter.unusedVariables false
open Go.RowKit
set_option linter.all false
set_option maxRecDepth 100000 in
set_option maxHeartbeats 8000000 in
theorem igrow_any (n : Nat) (h0 : 0 < n) (hn : n ≤ 1000000) (w : World) :
    Calls Tryz.prog 91 #[.slice none 0 0, .int .i64 n] w fun e w' => ∃ g cap, e = .returned (.slice (some ⟨g, 0, none⟩) 0 cap) ∧ Hp w.heap.size w w' [.row 3 1 (some ⟨g, 0, none⟩) 0 cap []] := by
  have hS := Hp.init w
  have hR := Reads.nil w
  have e1 : wrap64 ((n : Int) - 0) = (n : Int) := by unfold wrap64; omega
  have e2 : ¬ ((n : Int) < 0) := by omega
  have e3 : (0 : Int) < (n : Int) := by omega
  go_enter Tryz.func91, Tryz.ntmps91
  go_wp2_with (first | ((with_reducible first | refine nhLa ?_ | refine nhLs ?_ | refine nhLd ?_ | refine nhCa ?_ | refine nhCs ?_ | refine nhCd ?_ | refine nhPa ?_ | refine nhPs ?_ | refine nhPd ?_ | refine nhKa ?_ | refine nhKs ?_ | refine nhKd ?_); ((try clear hF); clear hS; intro wk hS; (try simp only [List.set_cons_zero, List.set_cons_succ, heap_size, heap_set_size] at hS); ((try clear hF); (first | have hF := And.intro hS.facts (HRD.out _ (hS.sub (by first | simp | ((repeat (first | exact List.nil_sublist _ | exact List.Sublist.refl _ | with_reducible apply List.Sublist.cons₂ | apply List.Sublist.cons)))))) | have hF := And.intro hS.facts (hR.at hS.ext) | have hF := hS.facts); simp only [HFacts, cellFacts, RFacts, cellOnly, and_true, true_and, Nat.zero_add, Nat.reduceAdd] at hF))) | (at_builtin; refine wpList_zeros_hp Tryz.elem_ints Tryz.underlying3 rfl (.tmp 20) (.tmp 21) rfl hS rfl (by go_simp; rfl) h0 (by omega) (by omega) ?_; clear hS; intro g cap wk hc hS; ((try clear hF); (first | have hF := And.intro hS.facts (HRD.out _ (hS.sub (by first | simp | ((repeat (first | exact List.nil_sublist _ | exact List.Sublist.refl _ | with_reducible apply List.Sublist.cons₂ | apply List.Sublist.cons)))))) | have hF := And.intro hS.facts (hR.at hS.ext) | have hF := hS.facts); simp only [HFacts, cellFacts, RFacts, cellOnly, and_true, true_and, Nat.zero_add, Nat.reduceAdd] at hF)))
  go_ret
  exact ⟨g, cap, rfl, hS⟩
theorem intsV_one (l : List Int) : ∀ u ∈ intsV l, u.oneCell' = true := fun u hu => by
  obtain ⟨x, _, rfl⟩ := List.mem_map.1 hu
  rfl
theorem RI.nil {w : World} {l : List Int} (h : RI w none l) : l = [] := by
  cases l with
  | nil => rfl
  | cons x l =>
    obtain ⟨b, o, e, _⟩ := h 0 x rfl
    cases e
/-- append of the numbers of another slice -/
theorem wpList_append_ri {B : Nat} {w0 w : World} {L : List Item} {n m c cap : Nat} {A A2 : Option Addr} {xs l : List Int} {ops : Array Oper} {rest : List Oper} {o : Oper} {a : Act} {Q : Exit → Act → World → Prop} (hgd : o.guard = none) (s x : Operand)
    (ho : o.op = .call { callee := .builtin .append, args := #[s, x], argTypes := #[41, 41] }) (h : Hp B w0 w (.row 3 1 A n cap (intsV xs) :: L)) (hs : a.eval s = .slice A n cap) (hr : RI w A2 l) (hl : l.length = m) (hz : A2 = none → c = 0) (hx : a.eval x = .slice A2 m c) (hm : n + m ≤ 1000000)
    (k : ∀ A' cap' w', Hp B w0 w' (.row 3 1 A' (n + m) cap' (intsV (xs ++ l)) :: L) → wpList Tryz.prog ops Q rest (a.put o.dst (.slice A' (n + m : Nat) cap')) w') : wpList Tryz.prog ops Q (o :: rest) a w := by
  cases A2 with
  | none =>
    have := hr.nil
    subst this
    obtain rfl : m = 0 := by simpa using hl.symm
    obtain rfl : c = 0 := hz rfl
    refine wpList_plain hgd fun K hK => ?_
    have hr := run_append_nilsrc (P := Tryz.prog) (t := 41) (ty := o.type) Tryz.elem_ints h
    unfold Oper.wp execOp
    simp only [ho, resolve, invoke, builtin, Sem.run_bind, Sem.run_pure, Result.andThen_ok, List.map_toArray, List.map_cons, List.map_nil, hs, hx, hr]
    exact hK _ _ (k A cap w (by rw [List.append_nil]; exact h))
  | some ad =>
    refine wpList_append_hp Tryz.elem_ints hgd s x ho h hs ad hx (news := intsV l) (by rw [List.length_map, hl, Nat.mul_one]) (fun j u hu => ?_) (intsV_one l) (by omega) (by omega) (fun A' cap' w' h' => k A' cap' w' (by rw [intsV, List.map_append]; exact h'))
    rw [intsV_get] at hu
    obtain ⟨y, hy, rfl⟩ := Option.map_eq_some_iff.1 hu
    obtain ⟨b, o, e, hc⟩ := hr j y hy
    obtain rfl := Option.some.inj e
    rw [addr_plus]
    exact hc
set_option maxRecDepth 100000 in
set_option maxHeartbeats 8000000 in
theorem iconcat_any (l m : List Int) (A A2 : Option Addr) (n k c c2 gs : Nat) (t : TypeId) (w : World) (hn : l.length = n) (hk : m.length = k) (h0 : 0 < n + k) (hs : n + k ≤ 1000) (hr : RI w A l) (hr2 : RI w A2 m) (hz : A = none → c = 0) (hz2 : A2 = none → c2 = 0)
    (hb : w.heap[gs]? = some (.cells #[.slice A n c, .slice A2 k c2] t (0, 0))) :
    Calls Tryz.prog 67 #[.slice (some ⟨gs, 0, none⟩) 2 2] w fun e w' => ∃ A' cap', e = .returned (.slice A' (n + k : Nat) cap') ∧ Hp w.heap.size w w' [.row 3 1 A' (n + k) cap' (intsV (l ++ m))] := by
  have HR := Lib.hid hr
  have HR2 := Lib.hid hr2
  have HG := Lib.hid (fun W : World => show Calls Tryz.prog 91 #[.slice none 0 0, .int .i64 ((n : Int) + (k : Int))] W (fun e w' => ∃ g cap, e = .returned (.slice (some ⟨g, 0, none⟩) 0 cap) ∧ Hp W.heap.size W w' [.row 3 1 (some ⟨g, 0, none⟩) 0 cap []]) from by
    have := igrow_any (n + k) h0 (by omega) W
    rw [Int.natCast_add] at this
    exact this)
  have hS := Hp.init w
  have hR := Reads.blk hb (Reads.nil w)
  clear hb hr hr2
  go_enter Tryz.func67, Tryz.ntmps67
  go_wp2_with (first | ((with_reducible first | refine nhLa ?_ | refine nhLs ?_ | refine nhLd ?_ | refine nhCa ?_ | refine nhCs ?_ | refine nhCd ?_ | refine nhPa ?_ | refine nhPs ?_ | refine nhPd ?_ | refine nhKa ?_ | refine nhKs ?_ | refine nhKd ?_); ((try clear hF); clear hS; intro wk hS; (try simp only [List.set_cons_zero, List.set_cons_succ, heap_size, heap_set_size] at hS); ((try clear hF); (first | have hF := And.intro hS.facts (HRD.out _ (hS.sub (by first | simp | ((repeat (first | exact List.nil_sublist _ | exact List.Sublist.refl _ | with_reducible apply List.Sublist.cons₂ | apply List.Sublist.cons)))))) | have hF := And.intro hS.facts (hR.at hS.ext) | have hF := hS.facts); simp only [HFacts, cellFacts, RFacts, cellOnly, and_true, true_and, Nat.zero_add, Nat.reduceAdd] at hF))) | fail)
  go_loopw [11, 3] (fun i s wr => ∃ (j : Nat), i = .int .i64 j ∧ (j = 0 ∧ s = .int .i64 0 ∨ j = 1 ∧ s = .int .i64 n ∨ j = 2 ∧ s = .int .i64 ((n : Int) + (k : Int))) ∧ Hp w.heap.size w wr []) (fun i _ _ => 2 - (intOf i).toNat)
  case atStart => exact ⟨0, rfl, .inl ⟨rfl, rfl⟩, hS⟩
  case round =>
    clear hS
    obtain ⟨j, rfl, hj, hS⟩ := hrel
    rcases hj with ⟨rfl, rfl⟩ | ⟨rfl, rfl⟩ | ⟨rfl, rfl⟩
    · have e1 : wrap64 (0 + (n : Int)) = (n : Int) := by unfold wrap64; omega
      ((try clear hF); (first | have hF := And.intro hS.facts (HRD.out _ (hS.sub (by first | simp | ((repeat (first | exact List.nil_sublist _ | exact List.Sublist.refl _ | with_reducible apply List.Sublist.cons₂ | apply List.Sublist.cons)))))) | have hF := And.intro hS.facts (hR.at hS.ext) | have hF := hS.facts); simp only [HFacts, cellFacts, RFacts, cellOnly, and_true, true_and, Nat.zero_add, Nat.reduceAdd] at hF)
      go_wp2_with (first | ((with_reducible first | refine nhLa ?_ | refine nhLs ?_ | refine nhLd ?_ | refine nhCa ?_ | refine nhCs ?_ | refine nhCd ?_ | refine nhPa ?_ | refine nhPs ?_ | refine nhPd ?_ | refine nhKa ?_ | refine nhKs ?_ | refine nhKd ?_); ((try clear hF); clear hS; intro wk hS; (try simp only [List.set_cons_zero, List.set_cons_succ, heap_size, heap_set_size] at hS); ((try clear hF); (first | have hF := And.intro hS.facts (HRD.out _ (hS.sub (by first | simp | ((repeat (first | exact List.nil_sublist _ | exact List.Sublist.refl _ | with_reducible apply List.Sublist.cons₂ | apply List.Sublist.cons)))))) | have hF := And.intro hS.facts (hR.at hS.ext) | have hF := hS.facts); simp only [HFacts, cellFacts, RFacts, cellOnly, and_true, true_and, Nat.zero_add, Nat.reduceAdd] at hF))) | fail)
      go_roundw
      case rel => exact ⟨1, by go_num, .inr (.inl ⟨rfl, by go_simp⟩), hS⟩
      case measure => simp [intOf]
    · have e1 : IntKind.i64.wrap ((n : Int) + (k : Int)) = (n : Int) + (k : Int) := IntWalk.i64_in _ (by omega)
      have e2 : ¬ ((n : Int) + (k : Int) < 0) := by omega
      ((try clear hF); (first | have hF := And.intro hS.facts (HRD.out _ (hS.sub (by first | simp | ((repeat (first | exact List.nil_sublist _ | exact List.Sublist.refl _ | with_reducible apply List.Sublist.cons₂ | apply List.Sublist.cons)))))) | have hF := And.intro hS.facts (hR.at hS.ext) | have hF := hS.facts); simp only [HFacts, cellFacts, RFacts, cellOnly, and_true, true_and, Nat.zero_add, Nat.reduceAdd] at hF)
      go_wp2_with (first | ((with_reducible first | refine nhLa ?_ | refine nhLs ?_ | refine nhLd ?_ | refine nhCa ?_ | refine nhCs ?_ | refine nhCd ?_ | refine nhPa ?_ | refine nhPs ?_ | refine nhPd ?_ | refine nhKa ?_ | refine nhKs ?_ | refine nhKd ?_); ((try clear hF); clear hS; intro wk hS; (try simp only [List.set_cons_zero, List.set_cons_succ, heap_size, heap_set_size] at hS); ((try clear hF); (first | have hF := And.intro hS.facts (HRD.out _ (hS.sub (by first | simp | ((repeat (first | exact List.nil_sublist _ | exact List.Sublist.refl _ | with_reducible apply List.Sublist.cons₂ | apply List.Sublist.cons)))))) | have hF := And.intro hS.facts (hR.at hS.ext) | have hF := hS.facts); simp only [HFacts, cellFacts, RFacts, cellOnly, and_true, true_and, Nat.zero_add, Nat.reduceAdd] at hF))) | fail)
      go_roundw
      case rel => exact ⟨2, by go_num, .inr (.inr ⟨rfl, by go_simp⟩), hS⟩
      case measure => simp [intOf]
    · skip
      ((try clear hF); (first | have hF := And.intro hS.facts (HRD.out _ (hS.sub (by first | simp | ((repeat (first | exact List.nil_sublist _ | exact List.Sublist.refl _ | with_reducible apply List.Sublist.cons₂ | apply List.Sublist.cons)))))) | have hF := And.intro hS.facts (hR.at hS.ext) | have hF := hS.facts); simp only [HFacts, cellFacts, RFacts, cellOnly, and_true, true_and, Nat.zero_add, Nat.reduceAdd] at hF)
      go_wp2_with (first | ((with_reducible first | refine nhLa ?_ | refine nhLs ?_ | refine nhLd ?_ | refine nhCa ?_ | refine nhCs ?_ | refine nhCd ?_ | refine nhPa ?_ | refine nhPs ?_ | refine nhPd ?_ | refine nhKa ?_ | refine nhKs ?_ | refine nhKd ?_); ((try clear hF); clear hS; intro wk hS; (try simp only [List.set_cons_zero, List.set_cons_succ, heap_size, heap_set_size] at hS); ((try clear hF); (first | have hF := And.intro hS.facts (HRD.out _ (hS.sub (by first | simp | ((repeat (first | exact List.nil_sublist _ | exact List.Sublist.refl _ | with_reducible apply List.Sublist.cons₂ | apply List.Sublist.cons)))))) | have hF := And.intro hS.facts (hR.at hS.ext) | have hF := hS.facts); simp only [HFacts, cellFacts, RFacts, cellOnly, and_true, true_and, Nat.zero_add, Nat.reduceAdd] at hF))) | (go_at_call 91; (with_reducible refine Calls.mono (HG.out _) ?_); rintro e wk ⟨g, cap, rfl, hW⟩; replace hS := hS.join hW; clear hW; simp only [List.cons_append, List.nil_append] at hS; ((try clear hF); (first | have hF := And.intro hS.facts (HRD.out _ (hS.sub (by first | simp | ((repeat (first | exact List.nil_sublist _ | exact List.Sublist.refl _ | with_reducible apply List.Sublist.cons₂ | apply List.Sublist.cons)))))) | have hF := And.intro hS.facts (hR.at hS.ext) | have hF := hS.facts); simp only [HFacts, cellFacts, RFacts, cellOnly, and_true, true_and, Nat.zero_add, Nat.reduceAdd] at hF)))
      go_loopw [27, 6] (fun i s wr => ∃ (j q : Nat) (B' : Option Addr) (cb : Nat) (xs : List Int), i = .int .i64 j ∧ s = .slice B' q cb ∧ (j = 0 ∧ q = 0 ∧ xs = [] ∨ j = 1 ∧ q = n ∧ xs = l ∨ j = 2 ∧ q = n + k ∧ xs = l ++ m) ∧ Hp w.heap.size w wr [.row 3 1 B' q cb (intsV xs)]) (fun i _ _ => 2 - (intOf i).toNat)
      case atStart => exact ⟨0, 0, _, cap, [], rfl, rfl, .inl ⟨rfl, rfl, rfl⟩, hS⟩
      case round =>
        clear hS
        obtain ⟨j, q, B', cb, xs, rfl, rfl, hj, hS⟩ := hrel
        rcases hj with ⟨rfl, rfl, rfl⟩ | ⟨rfl, rfl, rfl⟩ | ⟨rfl, rfl, rfl⟩
        · ((try clear hF); (first | have hF := And.intro hS.facts (HRD.out _ (hS.sub (by first | simp | ((repeat (first | exact List.nil_sublist _ | exact List.Sublist.refl _ | with_reducible apply List.Sublist.cons₂ | apply List.Sublist.cons)))))) | have hF := And.intro hS.facts (hR.at hS.ext) | have hF := hS.facts); simp only [HFacts, cellFacts, RFacts, cellOnly, and_true, true_and, Nat.zero_add, Nat.reduceAdd] at hF)
          go_wp2_with (first | ((with_reducible first | refine nhLa ?_ | refine nhLs ?_ | refine nhLd ?_ | refine nhCa ?_ | refine nhCs ?_ | refine nhCd ?_ | refine nhPa ?_ | refine nhPs ?_ | refine nhPd ?_ | refine nhKa ?_ | refine nhKs ?_ | refine nhKd ?_); ((try clear hF); clear hS; intro wk hS; (try simp only [List.set_cons_zero, List.set_cons_succ, heap_size, heap_set_size] at hS); ((try clear hF); (first | have hF := And.intro hS.facts (HRD.out _ (hS.sub (by first | simp | ((repeat (first | exact List.nil_sublist _ | exact List.Sublist.refl _ | with_reducible apply List.Sublist.cons₂ | apply List.Sublist.cons)))))) | have hF := And.intro hS.facts (hR.at hS.ext) | have hF := hS.facts); simp only [HFacts, cellFacts, RFacts, cellOnly, and_true, true_and, Nat.zero_add, Nat.reduceAdd] at hF))) | (at_builtin; refine wpList_append_ri rfl (.tmp 31) (.tmp 32) rfl hS rfl (HR.out.ext hS.ext) hn hz rfl (by omega) ?_; clear hS; intro Af capf wk hS; ((try clear hF); (first | have hF := And.intro hS.facts (HRD.out _ (hS.sub (by first | simp | ((repeat (first | exact List.nil_sublist _ | exact List.Sublist.refl _ | with_reducible apply List.Sublist.cons₂ | apply List.Sublist.cons)))))) | have hF := And.intro hS.facts (hR.at hS.ext) | have hF := hS.facts); simp only [HFacts, cellFacts, RFacts, cellOnly, and_true, true_and, Nat.zero_add, Nat.reduceAdd] at hF)))
          go_roundw
          case rel => exact ⟨1, n, Af, capf, l, by go_num, rfl, .inr (.inl ⟨rfl, rfl, rfl⟩), by rw [Nat.zero_add] at hS; exact hS⟩
          case measure => simp [intOf]
        · ((try clear hF); (first | have hF := And.intro hS.facts (HRD.out _ (hS.sub (by first | simp | ((repeat (first | exact List.nil_sublist _ | exact List.Sublist.refl _ | with_reducible apply List.Sublist.cons₂ | apply List.Sublist.cons)))))) | have hF := And.intro hS.facts (hR.at hS.ext) | have hF := hS.facts); simp only [HFacts, cellFacts, RFacts, cellOnly, and_true, true_and, Nat.zero_add, Nat.reduceAdd] at hF)
          go_wp2_with (first | ((with_reducible first | refine nhLa ?_ | refine nhLs ?_ | refine nhLd ?_ | refine nhCa ?_ | refine nhCs ?_ | refine nhCd ?_ | refine nhPa ?_ | refine nhPs ?_ | refine nhPd ?_ | refine nhKa ?_ | refine nhKs ?_ | refine nhKd ?_); ((try clear hF); clear hS; intro wk hS; (try simp only [List.set_cons_zero, List.set_cons_succ, heap_size, heap_set_size] at hS); ((try clear hF); (first | have hF := And.intro hS.facts (HRD.out _ (hS.sub (by first | simp | ((repeat (first | exact List.nil_sublist _ | exact List.Sublist.refl _ | with_reducible apply List.Sublist.cons₂ | apply List.Sublist.cons)))))) | have hF := And.intro hS.facts (hR.at hS.ext) | have hF := hS.facts); simp only [HFacts, cellFacts, RFacts, cellOnly, and_true, true_and, Nat.zero_add, Nat.reduceAdd] at hF))) | (at_builtin; refine wpList_append_ri rfl (.tmp 31) (.tmp 32) rfl hS rfl (HR2.out.ext hS.ext) hk hz2 rfl (by omega) ?_; clear hS; intro Af capf wk hS; ((try clear hF); (first | have hF := And.intro hS.facts (HRD.out _ (hS.sub (by first | simp | ((repeat (first | exact List.nil_sublist _ | exact List.Sublist.refl _ | with_reducible apply List.Sublist.cons₂ | apply List.Sublist.cons)))))) | have hF := And.intro hS.facts (hR.at hS.ext) | have hF := hS.facts); simp only [HFacts, cellFacts, RFacts, cellOnly, and_true, true_and, Nat.zero_add, Nat.reduceAdd] at hF)))
          go_roundw
          case rel => exact ⟨2, _, Af, capf, _, by go_num, rfl, .inr (.inr ⟨rfl, rfl, rfl⟩), hS⟩
          case measure => simp [intOf]
        · ((try clear hF); (first | have hF := And.intro hS.facts (HRD.out _ (hS.sub (by first | simp | ((repeat (first | exact List.nil_sublist _ | exact List.Sublist.refl _ | with_reducible apply List.Sublist.cons₂ | apply List.Sublist.cons)))))) | have hF := And.intro hS.facts (hR.at hS.ext) | have hF := hS.facts); simp only [HFacts, cellFacts, RFacts, cellOnly, and_true, true_and, Nat.zero_add, Nat.reduceAdd] at hF)
          go_wp2_with (first | ((with_reducible first | refine nhLa ?_ | refine nhLs ?_ | refine nhLd ?_ | refine nhCa ?_ | refine nhCs ?_ | refine nhCd ?_ | refine nhPa ?_ | refine nhPs ?_ | refine nhPd ?_ | refine nhKa ?_ | refine nhKs ?_ | refine nhKd ?_); ((try clear hF); clear hS; intro wk hS; (try simp only [List.set_cons_zero, List.set_cons_succ, heap_size, heap_set_size] at hS); ((try clear hF); (first | have hF := And.intro hS.facts (HRD.out _ (hS.sub (by first | simp | ((repeat (first | exact List.nil_sublist _ | exact List.Sublist.refl _ | with_reducible apply List.Sublist.cons₂ | apply List.Sublist.cons)))))) | have hF := And.intro hS.facts (hR.at hS.ext) | have hF := hS.facts); simp only [HFacts, cellFacts, RFacts, cellOnly, and_true, true_and, Nat.zero_add, Nat.reduceAdd] at hF))) | fail)
          go_ret
          exact ⟨B', cb, rfl, hS⟩
def PredI (w0 : World) (g : Nat) (lb : Array Value) (p : Int → Bool) : Prop :=
  ∀ W, Ext w0 W → ∀ x : Int, Calls Tryz.prog g (#[.int .i64 x] ++ lb) W fun e w' => e = .returned (.bool (p x)) ∧ Ext W w'
theorem PredI.at {w0 : World} {g : Nat} {lb : Array Value} {p : Int → Bool} (h : PredI w0 g lb p) (W : World) (hx : Ext w0 W) (x : Int) : Calls Tryz.prog g (#[.int .i64 x] ++ lb) W fun e w' => e = .returned (.bool (p x)) ∧ Ext W w' := h W hx x
set_option maxRecDepth 100000 in
set_option maxHeartbeats 8000000 in
theorem iindexFunc_any (l : List Int) (A : Option Addr) (n cap : Nat) (g : Nat) (lb : Array Value) (p : Int → Bool) (w : World) (hn : l.length = n) (hr : RI w A l) (hl : n ≤ 1000000) (eg : ∀ args w, (callFunc g args).run Tryz.prog w = .ok (.enter g args) w) (hp : PredI w g lb p) :
    Calls Tryz.prog 89 #[.slice A n cap, .func (.func g) #[] lb] w fun e w' => e = .returned (.int .i64 (idxI p 0 l)) ∧ Ext w w' := by
  have Hn := Lib.hid hn.symm
  clear hn
  have HP := Lib.hid hp
  clear hp
  have hS := Hp.init w
  have hR := Reads.nil w
  go_enter Tryz.func89, Tryz.ntmps89
  go_wp2_with (first | ((with_reducible first | refine nhLa ?_ | refine nhLs ?_ | refine nhLd ?_ | refine nhCa ?_ | refine nhCs ?_ | refine nhCd ?_ | refine nhPa ?_ | refine nhPs ?_ | refine nhPd ?_ | refine nhKa ?_ | refine nhKs ?_ | refine nhKd ?_); ((try clear hF); clear hS; intro wk hS; (try simp only [List.set_cons_zero, List.set_cons_succ, heap_size, heap_set_size] at hS); ((try clear hF); (first | have hF := And.intro hS.facts (HRD.out _ (hS.sub (by first | simp | ((repeat (first | exact List.nil_sublist _ | exact List.Sublist.refl _ | with_reducible apply List.Sublist.cons₂ | apply List.Sublist.cons)))))) | have hF := And.intro hS.facts (hR.at hS.ext) | have hF := hS.facts); simp only [HFacts, cellFacts, RFacts, cellOnly, and_true, true_and, Nat.zero_add, Nat.reduceAdd] at hF))) | fail)
  go_loopw [8, 5] (fun i _ wr => ∃ k : Nat, i = .int .i64 k ∧ k ≤ n ∧ Hid (idxI p 0 l = idxI p k (l.drop k)) ∧ Hp w.heap.size w wr []) (fun i _ _ => n - (intOf i).toNat)
  case atStart => exact ⟨0, rfl, Nat.zero_le _, Lib.hid rfl, hS⟩
  case round =>
    clear hS
    obtain ⟨k, rfl, hk, hf, hS⟩ := hrel
    by_cases hlt : k < n
    · have hlt' : k < l.length := by rw [← Hn.out]; exact hlt
      obtain ⟨x, hx'⟩ : ∃ x, l[k]? = some x := ⟨l[k], List.getElem?_eq_getElem hlt'⟩
      obtain ⟨b, o, rfl, c0⟩ := hr k x hx'
      have hR := Reads.cell c0 (Reads.nil w)
      have HD := Lib.hid (dropI_cons hx')
      clear hx' hlt' c0 hr
      ((try clear hF); (first | have hF := And.intro hS.facts (HRD.out _ (hS.sub (by first | simp | ((repeat (first | exact List.nil_sublist _ | exact List.Sublist.refl _ | with_reducible apply List.Sublist.cons₂ | apply List.Sublist.cons)))))) | have hF := And.intro hS.facts (hR.at hS.ext) | have hF := hS.facts); simp only [HFacts, cellFacts, RFacts, cellOnly, and_true, true_and, Nat.zero_add, Nat.reduceAdd] at hF)
      go_wp2_with (first | ((with_reducible first | refine nhLa ?_ | refine nhLs ?_ | refine nhLd ?_ | refine nhCa ?_ | refine nhCs ?_ | refine nhCd ?_ | refine nhPa ?_ | refine nhPs ?_ | refine nhPd ?_ | refine nhKa ?_ | refine nhKs ?_ | refine nhKd ?_); ((try clear hF); clear hS; intro wk hS; (try simp only [List.set_cons_zero, List.set_cons_succ, heap_size, heap_set_size] at hS); ((try clear hF); (first | have hF := And.intro hS.facts (HRD.out _ (hS.sub (by first | simp | ((repeat (first | exact List.nil_sublist _ | exact List.Sublist.refl _ | with_reducible apply List.Sublist.cons₂ | apply List.Sublist.cons)))))) | have hF := And.intro hS.facts (hR.at hS.ext) | have hF := hS.facts); simp only [HFacts, cellFacts, RFacts, cellOnly, and_true, true_and, Nat.zero_add, Nat.reduceAdd] at hF))) | ((with_reducible refine (HP.out.at _ hS.ext x).mono ?_); rintro e wk ⟨rfl, hX⟩; replace hS := hS.step hX; clear hX; ((try clear hF); (first | have hF := And.intro hS.facts (HRD.out _ (hS.sub (by first | simp | ((repeat (first | exact List.nil_sublist _ | exact List.Sublist.refl _ | with_reducible apply List.Sublist.cons₂ | apply List.Sublist.cons)))))) | have hF := And.intro hS.facts (hR.at hS.ext) | have hF := hS.facts); simp only [HFacts, cellFacts, RFacts, cellOnly, and_true, true_and, Nat.zero_add, Nat.reduceAdd] at hF)))
      · go_ret
        refine ⟨?_, hS.ext⟩
        have hc : p x = true := by assumption
        rw [hf.out, HD.out, idxI, if_pos hc]; first | done | rfl
      · go_roundw
        case rel =>
          have hc : p x = false := by assumption
          exact ⟨k + 1, by go_num, by omega, Lib.hid (by rw [hf.out, HD.out, idxI, if_neg (by rw [hc]; simp)]), hS⟩
        case measure => simp [intOf]; omega
    · obtain rfl : n = k := by omega
      ((try clear hF); (first | have hF := And.intro hS.facts (HRD.out _ (hS.sub (by first | simp | ((repeat (first | exact List.nil_sublist _ | exact List.Sublist.refl _ | with_reducible apply List.Sublist.cons₂ | apply List.Sublist.cons)))))) | have hF := And.intro hS.facts (hR.at hS.ext) | have hF := hS.facts); simp only [HFacts, cellFacts, RFacts, cellOnly, and_true, true_and, Nat.zero_add, Nat.reduceAdd] at hF)
      go_wp2_with (first | ((with_reducible first | refine nhLa ?_ | refine nhLs ?_ | refine nhLd ?_ | refine nhCa ?_ | refine nhCs ?_ | refine nhCd ?_ | refine nhPa ?_ | refine nhPs ?_ | refine nhPd ?_ | refine nhKa ?_ | refine nhKs ?_ | refine nhKd ?_); ((try clear hF); clear hS; intro wk hS; (try simp only [List.set_cons_zero, List.set_cons_succ, heap_size, heap_set_size] at hS); ((try clear hF); (first | have hF := And.intro hS.facts (HRD.out _ (hS.sub (by first | simp | ((repeat (first | exact List.nil_sublist _ | exact List.Sublist.refl _ | with_reducible apply List.Sublist.cons₂ | apply List.Sublist.cons)))))) | have hF := And.intro hS.facts (hR.at hS.ext) | have hF := hS.facts); simp only [HFacts, cellFacts, RFacts, cellOnly, and_true, true_and, Nat.zero_add, Nat.reduceAdd] at hF))) | fail)
      go_ret
      exact ⟨by rw [hf.out, Hn.out, List.drop_length]; rfl, hS.ext⟩
set_option maxRecDepth 100000 in
theorem icontainsFunc_any (l : List Int) (A : Option Addr) (n cap : Nat) (g : Nat) (lb : Array Value) (p : Int → Bool) (w : World) (hn : l.length = n) (hr : RI w A l) (hl : n ≤ 1000000) (eg : ∀ args w, (callFunc g args).run Tryz.prog w = .ok (.enter g args) w) (hp : PredI w g lb p) :
    Calls Tryz.prog 64 #[.slice A n cap, .func (.func g) #[] lb] w fun e w' => e = .returned (.bool (l.any p)) ∧ Ext w w' := by
  have hI := fun (W : World) (hx : Ext w W) => iindexFunc_any l A n cap g lb p W hn (hr.ext hx) hl eg (fun W' hx' => hp W' (hx.trans hx'))
  have HI := Lib.hid hI
  have HA := Lib.hid (idxI_any p l 0)
  clear hI hr hp
  have hS := Hp.init w
  have hR := Reads.nil w
  go_enter Tryz.func64, Tryz.ntmps64
  go_wp2_with (first | ((with_reducible first | refine nhLa ?_ | refine nhLs ?_ | refine nhLd ?_ | refine nhCa ?_ | refine nhCs ?_ | refine nhCd ?_ | refine nhPa ?_ | refine nhPs ?_ | refine nhPd ?_ | refine nhKa ?_ | refine nhKs ?_ | refine nhKd ?_); ((try clear hF); clear hS; intro wk hS; (try simp only [List.set_cons_zero, List.set_cons_succ, heap_size, heap_set_size] at hS); ((try clear hF); (first | have hF := And.intro hS.facts (HRD.out _ (hS.sub (by first | simp | ((repeat (first | exact List.nil_sublist _ | exact List.Sublist.refl _ | with_reducible apply List.Sublist.cons₂ | apply List.Sublist.cons)))))) | have hF := And.intro hS.facts (hR.at hS.ext) | have hF := hS.facts); simp only [HFacts, cellFacts, RFacts, cellOnly, and_true, true_and, Nat.zero_add, Nat.reduceAdd] at hF))) | (go_at_call 89; (with_reducible refine (HI.out _ hS.ext).mono ?_); rintro e wk ⟨rfl, hX⟩; replace hS := hS.step hX; clear hX; ((try clear hF); (first | have hF := And.intro hS.facts (HRD.out _ (hS.sub (by first | simp | ((repeat (first | exact List.nil_sublist _ | exact List.Sublist.refl _ | with_reducible apply List.Sublist.cons₂ | apply List.Sublist.cons)))))) | have hF := And.intro hS.facts (hR.at hS.ext) | have hF := hS.facts); simp only [HFacts, cellFacts, RFacts, cellOnly, and_true, true_and, Nat.zero_add, Nat.reduceAdd] at hF)))
  go_ret
  exact ⟨by rw [HA.out]; first | done | rfl, hS.ext⟩
end Go.Proofs.YtcpnnffnkegamaaGreatDoor
