/- a map from strings to strings that the call owns, nil or not; what it reads as; ranging over it. For any program. -/
import Derived.Test.YtbfccjjnnkomcaaDoorHpMap
namespace Go.Proofs.YtbfccjjnnkomcaaDoor
set_option linter.all false
open Go.RowKit
open Go.Maps (Keyed)
/-- a string as a key, as an element -/
abbrev sk (s : ByteArray) : Lit := .string s.data.toList
abbrev sv (s : ByteArray) : DataW Unit := .lit (sk s)
/-- is the key there; what is there (nothing, if it is not) -/
def bhas (D : DataW Unit) (s : ByteArray) : Bool := Maps.has D (sk s)
def bget (D : DataW Unit) (s : ByteArray) : ByteArray := match D.atKey (sk s) (sv ⟨#[]⟩) with
  | .lit (.string l) => ⟨⟨l⟩⟩
  | _ => ⟨#[]⟩
theorem ba_eq {s t : ByteArray} (h : s.data.toList = t.data.toList) : s = t := by
  obtain ⟨⟨a⟩⟩ := s
  obtain ⟨⟨b⟩⟩ := t
  simp at h
  rw [h]
theorem sk_inj {s t : ByteArray} (h : sk s = sk t) : s = t := ba_eq (by injection h)
theorem bhas_put_same {D : DataW Unit} (hD : Maps.IsMap D) (k v : ByteArray) : bhas (D.put (sk k) (sv v)) k = true := Maps.has_put_same (k := sk k) hD trivial _
theorem bhas_put_other {D : DataW Unit} {k k' : ByteArray} (h : k' ≠ k) (v : ByteArray) : bhas (D.put (sk k) (sv v)) k' = bhas D k' := Maps.has_put_other (fun e => h (sk_inj e)) _
theorem bget_put_same {D : DataW Unit} (hD : Maps.IsMap D) (k v : ByteArray) : bget (D.put (sk k) (sv v)) k = v := by
  unfold bget
  rw [Maps.atKey_put_same (k := sk k) hD trivial]
theorem bget_put_other {D : DataW Unit} {k k' : ByteArray} (h : k' ≠ k) (v : ByteArray) : bget (D.put (sk k) (sv v)) k' = bget D k' := by
  unfold bget
  rw [Maps.atKey_put_other (fun e => h (sk_inj e))]
theorem bhas_del_same (D : DataW Unit) (k : ByteArray) : bhas (D.del (sk k)) k = false := Maps.has_del_same
theorem bhas_del_other {D : DataW Unit} {k k' : ByteArray} (h : k' ≠ k) : bhas (D.del (sk k)) k' = bhas D k' := Maps.has_del_other (fun e => h (sk_inj e))
theorem bget_del_other {D : DataW Unit} {k k' : ByteArray} (h : k' ≠ k) : bget (D.del (sk k)) k' = bget D k' := by
  unfold bget
  rw [Maps.atKey_del_other (fun e => h (sk_inj e))]
theorem bget_none {D : DataW Unit} {k : ByteArray} (h : bhas D k = false) : bget D k = ⟨#[]⟩ := by
  unfold bget
  rw [Maps.atKey_of_not_has h]
section
variable {P : Program} {ops : Array Oper} {Q : Exit → Act → World → Prop} {B : Nat} {w0 w w' : World} {L : List Item} {g n : Nat} {ob : Obj} {k e : TypeId} {D : DataW Unit} {o : Oper} {rest : List Oper} {a : Act} {mo : Option Nat}
/-- the map's object, if there is one; nil reads as empty -/
def MO (P : Program) (k e : TypeId) (n : Nat) (D : DataW Unit) (mo : Option Nat) (ob : Obj) : Prop := (mo = none ∧ D = .map []) ∨ (∃ g, mo = some g ∧ MFit P k e n D ob)
theorem Hp.mpOb (h : Hp B w0 w (.mp (some g) ob :: L)) : Hp B w0 w (.ob g ob :: L) :=
  h.turn ((Ext.refl w).grownBy none) (.inl rfl) (h.head g rfl) (.inl rfl)
theorem Hp.obMp (h : Hp B w0 w (.ob g ob :: L)) : Hp B w0 w (.mp (some g) ob :: L) :=
  h.turn ((Ext.refl w).grownBy none) (.inl rfl) (fun g' e => by cases e; exact h.head) (.inl rfl)
theorem Hp.nilMp (h : Hp B w0 w L) (o : Obj) : Hp B w0 w (.mp none o :: L) := h.cons (fun g e => by cases e) fun _ _ => .inl rfl
theorem MFit.isMap (hm : MFit P k e n D ob) : Maps.IsMap D := by
  obtain ⟨es, clock, rfl, h1, h2, h3⟩ := hm
  exact ⟨_, h3⟩
theorem MO.isMap (hm : MO P k e n D mo ob) : Maps.IsMap D := by
  rcases hm with ⟨_, rfl⟩ | ⟨g, _, hm⟩
  · exact Maps.isMap_empty
  · exact hm.isMap
theorem MFit.size_le (hm : MFit P k e n D ob) : Maps.size D ≤ n := by
  obtain ⟨es, clock, rfl, h1, h2, h3⟩ := hm
  rw [h3, Maps.size_eq, length_read]
  exact h2
theorem MO.size_le (hm : MO P k e n D mo ob) : Maps.size D ≤ n := by
  rcases hm with ⟨_, rfl⟩ | ⟨g, _, hm⟩
  · exact Nat.zero_le _
  · exact hm.size_le
theorem Hp.ownsMp (h : Hp B w0 w L) {i : Nat} (hi : L[i]? = some (.mp (some g) ob)) (hm : MFit P k e n D ob) : w.ownsMap P k (plainElem (H := Unit) P e) g n D := by
  obtain ⟨es, clock, rfl, h1, h2, h3⟩ := hm
  have := h.own _ (List.mem_of_getElem? hi)
  exact ⟨es, clock, (this g rfl).2, h1, h2, h3⟩
theorem Hp.ownsOb (h : Hp B w0 w L) {i : Nat} (hi : L[i]? = some (.ob g ob)) (hm : MFit P k e n D ob) : w.ownsMap P k (plainElem (H := Unit) P e) g n D := by
  obtain ⟨es, clock, rfl, h1, h2, h3⟩ := hm
  have := h.own _ (List.mem_of_getElem? hi)
  exact ⟨es, clock, this.2, h1, h2, h3⟩
theorem sv0 : (sv ⟨#[]⟩ : DataW Unit) = .lit (.string []) := rfl
theorem look_str {t : TypeId} (h : w.ownsMap P k (plainElem (H := Unit) P e) g n D) (Ky : Keyed P k) (ht : P.underlying t = some (.map k e)) (he : P.underlying e = some .string) (hz : (zeroValue e).run P w = .ok (.string ⟨#[]⟩) w) (s : ByteArray) (hkey : keyOf P k (.string s) = some (sk s)) :
    (Instr.lookup t (.map (some g)) (.string s) true).run P w = .ok (.tuple #[.string (bget D s), .bool (bhas D s)]) w := by
  obtain ⟨v, ps, hrun, hv⟩ := h.look_ok Ky ht hz (plainElem_string he (s := ⟨#[]⟩) (by unfold maxLen; decide)) hkey
  obtain ⟨c, rfl, hc, _⟩ := plainElem_string_inv he hv
  rw [hrun]
  have hb : bget D s = c := by
    have := congrArg Prod.fst hc
    simp only at this
    unfold bget
    rw [show (sv ⟨#[]⟩ : DataW Unit) = .lit (.string (ByteArray.mk #[]).data.toList) from rfl, this]
  rw [hb]
  rfl
/-- 'v, ok := m[s]', m nil or not -/
theorem wpList_lookup_mps {t : TypeId} (hgd : o.guard = none) (m x : Operand) (hop : o.op = .lookup t m x true) (Ky : Keyed P k) (ht : P.underlying t = some (.map k e)) (he : P.underlying e = some .string) (hz : (zeroValue e).run P w = .ok (.string ⟨#[]⟩) w) (i : Nat) (hf : MO P k e n D mo ob) (h : Hp B w0 w L) (hi : L[i]? = some (.mp mo ob)) (hm : a.eval m = .map mo) (s : ByteArray) (hx : a.eval x = .string s) (hkey : keyOf P k (.string s) = some (sk s))
    (kk : wpList P ops Q rest (a.put o.dst (.tuple #[.string (bget D s), .bool (bhas D s)])) w) : wpList P ops Q (o :: rest) a w := by
  refine wpList_plain hgd fun K hK => ?_
  have hrun : (Instr.lookup t (.map mo) (.string s) true).run P w = .ok (.tuple #[.string (bget D s), .bool (bhas D s)]) w := by
    rcases hf with ⟨rfl, rfl⟩ | ⟨g, rfl, hf⟩
    · exact Maps.look_nil true Ky ht hz hkey
    · exact look_str (h.ownsMp hi hf) Ky ht he hz s hkey
  unfold Oper.wp
  simp [execOp, hop, hm, hx, hrun, Result.andThen]
  exact hK _ _ kk
/-- .. m that is not nil -/
theorem wpList_lookup_obs {t : TypeId} (hgd : o.guard = none) (m x : Operand) (hop : o.op = .lookup t m x true) (Ky : Keyed P k) (ht : P.underlying t = some (.map k e)) (he : P.underlying e = some .string) (hz : (zeroValue e).run P w = .ok (.string ⟨#[]⟩) w) (i : Nat) (hf : MFit P k e n D ob) (h : Hp B w0 w L) (hi : L[i]? = some (.ob g ob)) (hm : a.eval m = .map (some g)) (s : ByteArray) (hx : a.eval x = .string s) (hkey : keyOf P k (.string s) = some (sk s))
    (kk : wpList P ops Q rest (a.put o.dst (.tuple #[.string (bget D s), .bool (bhas D s)])) w) : wpList P ops Q (o :: rest) a w := by
  refine wpList_plain hgd fun K hK => ?_
  have hrun := look_str (h.ownsOb hi hf) Ky ht he hz s hkey
  unfold Oper.wp
  simp [execOp, hop, hm, hx, hrun, Result.andThen]
  exact hK _ _ kk
/-- 'delete(m, x)', m that is not nil -/
theorem wpList_delete_hp {t : TypeId} (hgd : o.guard = none) (m x : Operand) (hop : o.op = Op.call { callee := Callee.builtin Builtin.delete, args := #[m, x], argTypes := #[t, k] }) (Ky : Keyed P k) (ht : P.underlying t = some (.map k e)) (i : Nat) (hf : MFit P k e n D ob) (h : Hp B w0 w L) (hi : L[i]? = some (.ob g ob)) (hm : a.eval m = .map (some g)) (key : Value) (kl : Lit) (hx : a.eval x = key) (hkey : keyOf P k key = some kl)
    (kk : ∀ ob' w', MFit P k e n (D.del kl) ob' → Hp B w0 w' (.ob g ob' :: L.eraseIdx i) → wpList P ops Q rest (a.put o.dst (.tuple #[])) w') : wpList P ops Q (o :: rest) a w := by
  refine wpList_plain hgd fun K hK => ?_
  have h' := h.front i hi
  obtain ⟨w', hrun, r1, r2⟩ := (h'.owns hf).drop Ky ht hkey o.type
  obtain ⟨ob', h1, h2⟩ := h'.mapTurn r2.grown r1
  unfold Oper.wp
  simp [execOp, hop, resolve, invoke, builtin, hm, hx, hrun, Result.andThen]
  exact hK _ _ (kk _ _ h1 h2)
/-- 'len(m)' -/
theorem wpList_len_hp {t : TypeId} (hgd : o.guard = none) (m : Operand) (hop : o.op = Op.call { callee := Callee.builtin Builtin.len, args := #[m], argTypes := #[t] }) (ht : P.underlying t = some (.map k e)) (i : Nat) (hf : MFit P k e n D ob) (h : Hp B w0 w L) (hi : L[i]? = some (.ob g ob)) (hm : a.eval m = .map (some g))
    (kk : wpList P ops Q rest (a.put o.dst (.int .i64 (Maps.size D))) w) : wpList P ops Q (o :: rest) a w := by
  refine wpList_plain hgd fun K hK => ?_
  unfold Oper.wp
  simp [execOp, hop, resolve, invoke, builtin, hm, (h.ownsOb hi hf).len ht o.type, Result.andThen]
  exact hK _ _ kk
/-- an iterator over the map at g, at its own block r -/
def RFit (P : Program) (k e : TypeId) (g n : Nat) (D : DataW Unit) (left : Lit → Bool) (cnt : Nat) (ob it : Obj) : Prop :=
  ∃ es clock since seen c0, ob = .map es clock ∧ Go.WideElems.Fit P k (plainElem (H := Unit) P e) es clock ∧ es.size ≤ n ∧ D = .map ((es.toList.map (Go.WideElems.rg P k (plainElem (H := Unit) P e))).foldr DataW.insert []) ∧
    it = .mapIter (some g) since seen c0 ∧ (∀ x ∈ es.toList, x.born < since) ∧ (leftOf es seen).size = cnt ∧
    (∀ x ∈ es.toList, left (Go.WideElems.rg P k (plainElem (H := Unit) P e) x).1 = !seen.contains x.born) ∧ (∀ kl, left kl = true → ∃ x ∈ es.toList, (Go.WideElems.rg P k (plainElem (H := Unit) P e) x).1 = kl) ∧ since ≤ c0 ∧ since ≤ clock

variable {left : Lit → Bool} {cnt r i j : Nat} {it : Obj}
theorem Hp.obAt (h : Hp B w0 w L) (hi : L[i]? = some (.ob g ob)) : w.heap[g]? = some ob := (h.own _ (List.mem_of_getElem? hi)).2
theorem Hp.ranges (h : Hp B w0 w L) (hi : L[i]? = some (.ob g ob)) (hj : L[j]? = some (.ob r it)) (hr : RFit P k e g n D left cnt ob it) : w.ranges P k (plainElem (H := Unit) P e) g r n D left cnt := by
  obtain ⟨es, clock, since, seen, c0, rfl, h1, h2, h3, rfl, h4⟩ := hr
  exact ⟨es, clock, since, seen, c0, h.obAt hi, h1, h2, h3, h.obAt hj, h4⟩
theorem rfit_of {w' : World} (h : w'.ranges P k (plainElem (H := Unit) P e) g r n D left cnt) (hg : w'.heap[g]? = some ob) (hr : w'.heap[r]? = some it) : RFit P k e g n D left cnt ob it := by
  obtain ⟨es, clock, since, seen, c0, h0, h1, h2, h3, h4, h5⟩ := h
  rw [hg] at h0
  rw [hr] at h4
  exact ⟨es, clock, since, seen, c0, Option.some.inj h0, h1, h2, h3, Option.some.inj h4, h5⟩
theorem ranges_it {w' : World} (h : w'.ranges P k (plainElem (H := Unit) P e) g r n D left cnt) : ∃ it, w'.heap[r]? = some it := by
  obtain ⟨es, clock, since, seen, c0, h0, h1, h2, h3, h4, h5⟩ := h
  exact ⟨_, h4⟩
/-- 'range m' -/
theorem wpList_range_hp {t : TypeId} (hgd : o.guard = none) (m : Operand) (hop : o.op = Op.range t m) (Ky : Keyed P k) (ht : P.underlying t = some (.map k e)) (i : Nat) (hf : MFit P k e n D ob) (h : Hp B w0 w L) (hi : L[i]? = some (.ob g ob)) (hm : a.eval m = .map (some g))
    (kk : ∀ r it w', RFit P k e g n D (Maps.has D) (Maps.size D) ob it → Hp B w0 w' (.ob r it :: L) → wpList P ops Q rest (a.put o.dst (.pointer (some ⟨r, 0, none⟩))) w') : wpList P ops Q (o :: rest) a w := by
  refine wpList_range_own w hgd m t hop k e Ky ht _ g n D hm (h.ownsOb hi hf) fun w' hrg hgr hsz => ?_
  obtain ⟨it, hit⟩ := ranges_it hrg
  have h' := h.grown hgr
  exact kk _ it w' (rfit_of hrg (h'.obAt hi) hit) (h'.cons (x := .ob w.heap.size it) ⟨h.base, hit⟩ (h.fresh rfl (Nat.le_refl _)))
theorem key_str_inv (hk : P.underlying k = some .string) {key : Value} {kl : Lit} (h : keyOf P k key = some kl) : ∃ s : ByteArray, key = .string s ∧ kl = sk s ∧ s.size ≤ maxLen := by
  unfold keyOf mapKey at h
  rw [hk] at h
  cases key <;> simp at h
  rename_i s
  refine ⟨s, rfl, ?_, ?_⟩
  · exact h.2.symm
  · exact h.1
/-- the range's step: strings -/
theorem wpList_next_hps (hgd : o.guard = none) (itr : Operand) (hop : o.op = Op.next itr false) (Ky : Keyed P k) (hk : P.underlying k = some .string) (he : P.underlying e = some .string) (i j : Nat) (hr : RFit P k e g n D left cnt ob it) (h : Hp B w0 w L) (hi : L[i]? = some (.ob g ob)) (hj : L[j]? = some (.ob r it)) (hit : a.eval itr = .pointer (some ⟨r, 0, none⟩))
    (hDone : cnt = 0 → (∀ kl, left kl = false) → wpList P ops Q rest (a.put o.dst (.tuple #[.bool false])) w)
    (hMore : ∀ (x c : ByteArray) (it' : Obj) (w' : World) (cnt' : Nat), x.size ≤ maxLen → left (sk x) = true → bhas D x = true → bget D x = c → RFit P k e g n D (fun z => left z && !z.sameKey (sk x)) cnt' ob it' → cnt' < cnt → Hp B w0 w' (L.set j (.ob r it')) → (Instr.entry (.pointer (some ⟨r, 0, none⟩))).run P w' = .ok (.tuple #[.string x, .string c]) w' → wpList P ops Q rest (a.put o.dst (.tuple #[.bool true, .string x, .string c])) w') :
    wpList P ops Q (o :: rest) a w := by
  have hrg := h.ranges hi hj hr
  have hne : r ≠ g := hrg.ne
  refine wpList_next_ranges w hgd itr hop k Ky (plainElem P e) Value.string Value.string (fun key kl hkey => by obtain ⟨x, rfl, _⟩ := key_str_inv hk hkey; exact ⟨x, rfl⟩) (fun v y hv => by obtain ⟨c, rfl, _⟩ := plainElem_string_inv he hv; exact ⟨c, rfl⟩)
    g r n D left cnt hit hrg hDone fun x c kl y w' cnt' hkey hlk hv hat hrg1 hlt hgr hsz hen => ?_
  obtain ⟨x', ex, rfl, hxs⟩ := key_str_inv hk hkey
  cases ex
  obtain ⟨c', ec, rfl, hwc⟩ := plainElem_string_inv he hv
  cases ec
  obtain ⟨it', hit'⟩ := ranges_it hrg1
  have h1 := h.front j hj
  have h2 : Hp B w0 w' (.ob r it' :: L.eraseIdx j) := h1.turn hgr (.inr rfl) ⟨h1.head.1, hit'⟩ (.inl rfl)
  have h3 : Hp B w0 w' (L.set j (.ob r it')) := h2.perm (set_perm L j _ _ hj)
  have hg' : w'.heap[g]? = some ob := by
    rw [hgr.block g (Array.getElem?_eq_some_iff.1 (h.obAt hi)).1 (by simpa using fun e => hne e.symm)]
    exact h.obAt hi
  refine hMore x c it' w' cnt' hxs hlk ?_ ?_ (rfit_of hrg1 hg' hit') hlt h3 hen
  · exact Maps.has_true_of_atKey (y := sv c) hat
  · unfold bget
    rw [hat]
end
end Go.Proofs.YtbfccjjnnkomcaaDoor
