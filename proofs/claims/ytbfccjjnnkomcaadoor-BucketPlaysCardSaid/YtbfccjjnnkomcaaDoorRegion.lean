/- A region whose operations only compute, read what stays as it was, or call what leaves all as it was: walked once, in the order of the text, whatever order is drawn. For any program. -/
import Derived.Test.YtbfccjjnnkomcaaDoorBase
import Derived.Orders
namespace Go.Proofs.YtbfccjjnnkomcaaDoor
open Go.RowKit

section
variable {P : Program} {ops : Array Oper} {F : World → Prop}

/-- in every world that meets F the operation yields v, or calls a function that yields v and leaves what was there as it was -/
def StepOK (P : Program) (F : World → Prop) (o : Oper) (a : Act) (v : Value) : Prop :=
  (∀ w, F w → (execOp a.eval o).run P w = .ok (.value v) w) ∨
  (∃ f args, (∀ w, F w → (execOp a.eval o).run P w = .ok (.enter f args) w) ∧ ∀ w, F w → Calls P f args w fun e w' => e = .returned v ∧ Ext w w')

/-- the walk in the order of the text -/
def Fixed (P : Program) (ops : Array Oper) (F : World → Prop) (K : Act → Prop) : List Oper → Act → Prop
  | [], a => K a
  | o :: rest, a => (Region.wanted o (yielded ops a.tmps) = true ∧ ∃ v, StepOK P F o a v ∧ Fixed P ops F K rest (a.put o.dst v)) ∨
      (Region.wanted o (yielded ops a.tmps) = false ∧ Fixed P ops F K rest (a.put o.dst undef))

theorem Fixed.done {K : Act → Prop} {a : Act} (h : K a) : Fixed P ops F K [] a := h
theorem Fixed.skip {K : Act → Prop} {o : Oper} {rest : List Oper} {a : Act} (hw : Region.wanted o (yielded ops a.tmps) = false) (h : Fixed P ops F K rest (a.put o.dst undef)) : Fixed P ops F K (o :: rest) a := .inr ⟨hw, h⟩
theorem Fixed.val {K : Act → Prop} {o : Oper} {rest : List Oper} {a : Act} {v : Value} (hw : Region.wanted o (yielded ops a.tmps) = true) (hr : ∀ w, F w → (execOp a.eval o).run P w = .ok (.value v) w)
    (h : Fixed P ops F K rest (a.put o.dst v)) : Fixed P ops F K (o :: rest) a := .inl ⟨hw, v, .inl hr, h⟩
theorem Fixed.call {K : Act → Prop} {o : Oper} {rest : List Oper} {a : Act} {v : Value} {f : FuncId} {args : Array Value} (hw : Region.wanted o (yielded ops a.tmps) = true) (hr : ∀ w, F w → (execOp a.eval o).run P w = .ok (.enter f args) w)
    (hc : ∀ w, F w → Calls P f args w fun e w' => e = .returned v ∧ Ext w w') (h : Fixed P ops F K rest (a.put o.dst v)) : Fixed P ops F K (o :: rest) a := .inl ⟨hw, v, .inr ⟨f, args, hr, hc⟩, h⟩

/-- the frame when the operations of L have come up, with the values vs -/
def frameOf (ops : Array Oper) (vs : Nat → Value) (L : Nat → Bool) (a0 : Act) : Nat → Act
  | 0 => a0
  | n + 1 => if L n then (frameOf ops vs L a0 n).put ((ops[n]?).bind (·.dst)) (vs n) else frameOf ops vs L a0 n

theorem frame_congr {vs : Nat → Value} {L M : Nat → Bool} {a0 : Act} : ∀ n, (∀ i, i < n → L i = M i) → frameOf ops vs L a0 n = frameOf ops vs M a0 n
  | 0, _ => rfl
  | n + 1, h => by
    unfold frameOf
    rw [frame_congr n (fun i hi => h i (by omega)), h n (by omega)]
theorem frame_vs {vs us : Nat → Value} {L : Nat → Bool} {a0 : Act} : ∀ n, (∀ i, i < n → vs i = us i) → frameOf ops vs L a0 n = frameOf ops us L a0 n
  | 0, _ => rfl
  | n + 1, h => by
    unfold frameOf
    rw [frame_vs n (fun i hi => h i (by omega)), h n (by omega)]

/-- no two operations write one slot -/
def dstApart (ops : Array Oper) : Bool := (List.range ops.size).all fun i => (List.range ops.size).all fun j => i == j || match (ops[i]?).bind (·.dst) with | none => true | some d => (ops[j]?).bind (·.dst) != some d
/-- i waits for j -/
def waits (ops : Array Oper) (i j : Nat) : Bool := ((ops[i]?).map fun o => o.after.any fun e => Region.binds .any e && e.on == j).getD false
def isSelect (o : Oper) : Bool := match o.op with | .select .. => true | _ => false
/-- whoever looks at a slot waits for its writer, or its writer waits for him; nobody waits for whoever comes later -/
def looksOk (ops : Array Oper) : Bool := (List.range ops.size).all fun i => match ops[i]? with
  | none => true
  | some o => !isSelect o && (o.after.all fun e => !Region.binds .any e || decide (e.on < i)) && (o.looksAt ops).all fun t => (List.range ops.size).all fun j => ((ops[j]?).bind (·.dst) != some t) || (decide (j < i) && waits ops i j) || (decide (i < j) && waits ops j i)
def fixedOk (ops : Array Oper) : Bool := dstApart ops && looksOk ops

theorem dst_spec (h : dstApart ops = true) {i j : Nat} (hij : i ≠ j) {d : Tmp} (hi : (ops[i]?).bind (·.dst) = some d) : (ops[j]?).bind (·.dst) ≠ some d := by
  have li : i < ops.size := by
    rcases Nat.lt_or_ge i ops.size with h | h
    · exact h
    · simp [Array.getElem?_eq_none h] at hi
  intro hj
  have lj : j < ops.size := by
    rcases Nat.lt_or_ge j ops.size with h | h
    · exact h
    · simp [Array.getElem?_eq_none h] at hj
  unfold dstApart at h
  rw [List.all_eq_true] at h
  have h1 := h i (by simpa using li)
  rw [List.all_eq_true] at h1
  have h2 := h1 j (by simpa using lj)
  rw [hi, hj] at h2
  simp at h2
  exact hij h2

theorem put_put (hd : dstApart ops = true) (a : Act) {i j : Nat} (hij : i ≠ j) (v u : Value) :
    (a.put ((ops[i]?).bind (·.dst)) v).put ((ops[j]?).bind (·.dst)) u = (a.put ((ops[j]?).bind (·.dst)) u).put ((ops[i]?).bind (·.dst)) v :=
  Act.put_comm a v u fun d hi => dst_spec hd hij hi

/-- one more has come up -/
theorem frame_more (hd : dstApart ops = true) {vs : Nat → Value} {L : Nat → Bool} {a0 : Act} {i : Nat} (hi : L i = false) : ∀ n, i < n →
    frameOf ops vs (fun j => j == i || L j) a0 n = (frameOf ops vs L a0 n).put ((ops[i]?).bind (·.dst)) (vs i)
  | 0, h => absurd h (by omega)
  | n + 1, h => by
    unfold frameOf
    by_cases e : n = i
    · subst e
      simp only [beq_self_eq_true, Bool.true_or, if_true, hi, Bool.false_eq_true, if_false]
      rw [frame_congr (L := fun j => j == n || L j) (M := L) n (fun j hj => by
        have : (j == n) = false := by simp; omega
        simp [this])]
    · have hb : (n == i) = false := by simpa using e
      simp only [hb, Bool.false_or]
      rw [frame_more hd hi n (by omega)]
      split
      · exact put_put hd _ (fun h => e h.symm) _ _
      · rfl

theorem frame_size {vs : Nat → Value} {L : Nat → Bool} {a0 : Act} : ∀ n, (frameOf ops vs L a0 n).tmps.size = a0.tmps.size ∧ (frameOf ops vs L a0 n).defers = a0.defers
  | 0 => ⟨rfl, rfl⟩
  | n + 1 => by
    unfold frameOf
    have ih := frame_size (vs := vs) (L := L) (a0 := a0) n
    split
    · cases h : (ops[n]?).bind (·.dst) <;> simp [Act.put, ih]
    · exact ih
/-- a slot that nobody of L writes -/
theorem frame_other {vs : Nat → Value} {L : Nat → Bool} {a0 : Act} {t : Tmp} : ∀ n, (∀ j, j < n → L j = true → (ops[j]?).bind (·.dst) ≠ some t) → (frameOf ops vs L a0 n).tmps[t]? = a0.tmps[t]?
  | 0, _ => rfl
  | n + 1, h => by
    unfold frameOf
    have ih := frame_other (vs := vs) (L := L) (a0 := a0) (t := t) n (fun j hj => h j (by omega))
    split
    · rename_i hl
      have hn := h n (by omega) hl
      cases hd : (ops[n]?).bind (·.dst) with
      | none => simpa [Act.put] using ih
      | some d =>
        have : d ≠ t := fun e => hn (by rw [hd, e])
        simp [Act.put, Array.getElem?_setIfInBounds_ne this, ih]
    · exact ih
/-- a slot that j of L writes -/
theorem frame_at (hd : dstApart ops = true) {vs : Nat → Value} {L : Nat → Bool} {a0 : Act} {t : Tmp} {j : Nat} (hj : (ops[j]?).bind (·.dst) = some t) (hl : L j = true) : ∀ n, j < n →
    (frameOf ops vs L a0 n).tmps[t]? = if t < a0.tmps.size then some (vs j) else none
  | 0, h => absurd h (by omega)
  | n + 1, h => by
    unfold frameOf
    by_cases e : n = j
    · subst e
      rw [if_pos hl, hj]
      have hs := (frame_size (ops := ops) (vs := vs) (L := L) (a0 := a0) n).1
      by_cases hlt : t < a0.tmps.size
      · simp [Act.put, hs, hlt]
      · simp [Act.put, hs, hlt]
    · have ih := frame_at hd (vs := vs) (L := L) (a0 := a0) hj hl n (by omega)
      split
      · have hn := dst_spec hd (fun h => e h.symm) hj (j := n)
        cases hdn : (ops[n]?).bind (·.dst) with
        | none => simpa [Act.put] using ih
        | some d =>
          have : d ≠ t := fun e => hn (by rw [hdn, e])
          simp [Act.put, Array.getElem?_setIfInBounds_ne this, ih]
      · exact ih

/-- two frames agree at all slots that operation i looks at, if the ones of whom it waits are in both, and no one who waits for it in either -/
theorem frames_agree (hd : dstApart ops = true) (hl : looksOk ops = true) {vs : Nat → Value} {L M : Nat → Bool} {a0 : Act} {i : Nat} {o : Oper} (hi : ops[i]? = some o)
    (h1 : ∀ j, j < i → waits ops i j = true → L j = true ∧ M j = true) (h2 : ∀ j, i < j → waits ops j i = true → L j = false ∧ M j = false) (h3 : L i = false ∧ M i = false)
    {t : Tmp} (ht : t ∈ o.looksAt ops) : (frameOf ops vs L a0 ops.size).tmps[t]? = (frameOf ops vs M a0 ops.size).tmps[t]? := by
  have li : i < ops.size := (Array.getElem?_eq_some_iff.1 hi).1
  unfold looksOk at hl
  rw [List.all_eq_true] at hl
  have hli := hl i (by simpa using li)
  rw [hi] at hli
  simp only [Bool.and_eq_true] at hli
  have hlt := hli.2
  rw [List.all_eq_true] at hlt
  have hT := hlt t ht
  rw [List.all_eq_true] at hT
  by_cases hw : ∃ j, j < ops.size ∧ (ops[j]?).bind (·.dst) = some t
  · obtain ⟨j, lj, hj⟩ := hw
    have hJ := hT j (by simpa using lj)
    rw [hj] at hJ
    simp only [bne_self_eq_false, Bool.false_or, Bool.or_eq_true, Bool.and_eq_true, decide_eq_true_eq] at hJ
    rcases hJ with ⟨hji, hwt⟩ | ⟨hij, hwt⟩
    · obtain ⟨a, b⟩ := h1 j hji hwt
      rw [frame_at hd hj a _ lj, frame_at hd hj b _ lj]
    · obtain ⟨a, b⟩ := h2 j hij hwt
      rw [frame_other _ (fun k _ hk e => by
          by_cases hkj : k = j
          · subst hkj; rw [a] at hk; cases hk
          · exact dst_spec hd (fun e => hkj e.symm) hj e),
        frame_other _ (fun k _ hk e => by
          by_cases hkj : k = j
          · subst hkj; rw [b] at hk; cases hk
          · exact dst_spec hd (fun e => hkj e.symm) hj e)]
  · have hno : ∀ k, k < ops.size → (ops[k]?).bind (·.dst) ≠ some t := fun k hk e => hw ⟨k, hk, e⟩
    rw [frame_other _ (fun k hk _ => hno k hk), frame_other _ (fun k hk _ => hno k hk)]

theorem eval_agree {a b : Act} {o : Oper} (h : ∀ t ∈ o.looksAt ops, a.tmps[t]? = b.tmps[t]?) : ∀ x ∈ o.op.operands, a.eval x = b.eval x := by
  intro x hx
  cases x with
  | tmp t =>
    have := h t (List.mem_append_left _ (List.mem_filterMap.2 ⟨.tmp t, by simpa using hx, rfl⟩))
    simp only [Act.eval, Array.getD_eq_getD_getElem?, this]
  | const v => rfl
  | global g => rfl
  | func f => rfl
theorem wanted_agree {a b : Act} {o : Oper} (h : ∀ t ∈ o.looksAt ops, a.tmps[t]? = b.tmps[t]?) : Region.wanted o (yielded ops a.tmps) = Region.wanted o (yielded ops b.tmps) := by
  unfold Region.wanted
  cases hg : o.guard with
  | none => rfl
  | some gw =>
    obtain ⟨g, want⟩ := gw
    have : yielded ops a.tmps g = yielded ops b.tmps g := by
      unfold yielded
      cases ht : (ops[g]?).bind (·.dst) with
      | none => rfl
      | some t =>
        have := h t (by simp [Oper.looksAt, hg, ht])
        simp only [Option.bind_some, this]
    simp only [this]

/-- the frame of the text's order ahead of operation n -/
def frameTo (ops : Array Oper) (vs : Nat → Value) (a0 : Act) (n : Nat) : Act := frameOf ops vs (fun _ => true) a0 n
theorem frameTo_eq {vs : Nat → Value} {a0 : Act} {i : Nat} : ∀ n, i ≤ n → frameTo ops vs a0 i = frameOf ops vs (fun j => decide (j < i)) a0 n
  | 0, h => by obtain rfl : i = 0 := by omega
               rfl
  | n + 1, h => by
    by_cases e : i = n + 1
    · subst e
      exact frame_congr _ fun j hj => by simp [hj]
    · rw [frameTo_eq n (by omega)]
      conv => rhs; unfold frameOf
      rw [if_neg (by simp; omega)]

/-- out of the walk: the values, and that each step stands -/
theorem Fixed.values {K : Act → Prop} {a0 : Act} : ∀ (rest : List Oper) (n : Nat) (us : Nat → Value), (∀ j, rest[j]? = ops[n + j]?) → n + rest.length = ops.size → Fixed P ops F K rest (frameTo ops us a0 n) →
    ∃ vs : Nat → Value, (∀ j, j < n → vs j = us j) ∧ K (frameTo ops vs a0 ops.size) ∧ ∀ i o, n ≤ i → ops[i]? = some o →
      (Region.wanted o (yielded ops (frameTo ops vs a0 i).tmps) = true ∧ StepOK P F o (frameTo ops vs a0 i) (vs i)) ∨ (Region.wanted o (yielded ops (frameTo ops vs a0 i).tmps) = false ∧ vs i = undef)
  | [], n, us, _, hn, h => ⟨us, fun _ _ => rfl, by rw [← hn]; exact h, fun i o hi ho => by
      have := (Array.getElem?_eq_some_iff.1 ho).1
      simp at hn; omega⟩
  | o :: rest, n, us, hr, hn, h => by
    have ho : ops[n]? = some o := by simpa using (hr 0).symm
    have hr' : ∀ j, rest[j]? = ops[n + 1 + j]? := fun j => by
      have := hr (j + 1)
      simpa [Nat.add_assoc, Nat.add_comm 1 j] using this
    have hput : ∀ v, frameTo ops (fun j => if j = n then v else us j) a0 (n + 1) = (frameTo ops us a0 n).put o.dst v := fun v => by
      unfold frameTo
      conv => lhs; unfold frameOf
      rw [if_pos rfl, if_pos rfl, ho, frame_vs (us := us) n (fun i hi => if_neg (by omega))]
      rfl
    have hkeep : ∀ v vs, (∀ j, j < n + 1 → vs j = (if j = n then v else us j)) → frameTo ops vs a0 n = frameTo ops us a0 n := fun v vs hvs => by
      exact frame_vs _ fun j hj => by rw [hvs j (by omega), if_neg (by omega)]
    rcases h with ⟨hw, v, hs, h⟩ | ⟨hw, h⟩
    · obtain ⟨vs, h1, h2, h3⟩ := Fixed.values rest (n + 1) (fun j => if j = n then v else us j) hr' (by simp at hn; omega) (by rw [hput]; exact h)
      refine ⟨vs, fun j hj => by rw [h1 j (by omega), if_neg (by omega)], h2, fun i o' hi ho' => ?_⟩
      by_cases e : i = n
      · subst e
        obtain rfl : o = o' := Option.some.inj (ho.symm.trans ho')
        rw [hkeep v vs h1, h1 i (by omega), if_pos rfl]
        exact .inl ⟨hw, hs⟩
      · exact h3 i o' (by omega) ho'
    · obtain ⟨vs, h1, h2, h3⟩ := Fixed.values rest (n + 1) (fun j => if j = n then undef else us j) hr' (by simp at hn; omega) (by rw [hput]; exact h)
      refine ⟨vs, fun j hj => by rw [h1 j (by omega), if_neg (by omega)], h2, fun i o' hi ho' => ?_⟩
      by_cases e : i = n
      · subst e
        obtain rfl : o = o' := Option.some.inj (ho.symm.trans ho')
        rw [hkeep undef vs h1, h1 i (by omega), if_pos rfl]
        exact .inr ⟨hw, rfl⟩
      · exact h3 i o' (by omega) ho'

/-- one step, in whatever frame agrees -/
theorem wpOp_fixed {Q : Exit → Act → World → Prop} {i : Nat} {o : Oper} (hi : ops[i]? = some o) (hsel : isSelect o = false) {a b : Act} {w : World} {v : Value} {K : Act → World → Prop}
    (hab : ∀ t ∈ o.looksAt ops, a.tmps[t]? = b.tmps[t]?) (hF : F w)
    (hs : (Region.wanted o (yielded ops b.tmps) = true ∧ StepOK P F o b v) ∨ (Region.wanted o (yielded ops b.tmps) = false ∧ v = undef))
    (h : ∀ w', Ext w w' → K (a.put o.dst v) w') : wpOp P ops Q i K a w := by
  have hns : ∀ cs c, o.op ≠ .select cs c := fun cs c e => by simp [isSelect, e] at hsel
  unfold wpOp
  simp only [hi]
  rw [wanted_agree hab]
  have he : execOp a.eval o = execOp b.eval o := execOp_congr o hns (eval_agree hab)
  rcases hs with ⟨hw, hr | ⟨f, args, hr, hc⟩⟩ | ⟨hw, rfl⟩
  · rw [if_pos hw]
    refine .inl ?_
    unfold Oper.wp
    rw [he, hr w hF]
    exact h w (Ext.refl w)
  · rw [if_pos hw]
    refine .inl ?_
    unfold Oper.wp
    rw [he, hr w hF]
    exact (hc w hF).mono fun e w' ⟨h1, h2⟩ => by subst h1; exact h w' h2
  · rw [hw]
    exact h w (Ext.refl w)

theorem waits_spec {i j : Nat} {o : Oper} (hi : ops[i]? = some o) : waits ops i j = true ↔ ∃ e ∈ o.after, Region.binds .any e = true ∧ e.on = j := by
  simp only [waits, hi, Option.map_some, Option.getD_some]
  rw [Array.any_eq_true]
  constructor
  · rintro ⟨k, hk, h⟩
    simp only [Bool.and_eq_true, beq_iff_eq] at h
    exact ⟨o.after[k], Array.getElem_mem hk, h.1, h.2⟩
  · rintro ⟨e, he, h1, h2⟩
    obtain ⟨k, hk, rfl⟩ := Array.getElem_of_mem he
    exact ⟨k, hk, by simp [h1, h2]⟩
theorem filter_less {p q : Nat → Bool} {i : Nat} (hp : p i = true) (hq : q i = false) : ∀ (l : List Nat), (∀ j ∈ l, q j = true → p j = true) → (l.filter q).length ≤ (l.filter p).length ∧ (i ∈ l → (l.filter q).length < (l.filter p).length)
  | [], _ => by simp
  | x :: l, h => by
    obtain ⟨h1, h2⟩ := filter_less hp hq l fun j hj => h j (by simp [hj])
    have hx := h x (by simp)
    by_cases e : i = x
    · subst e
      simp only [List.filter_cons, hp, hq, if_true, Bool.false_eq_true, if_false, List.length_cons]
      omega
    · cases hqx : q x with
      | true =>
        simp only [List.filter_cons, hqx, hx hqx, if_true, List.length_cons]
        refine ⟨by omega, fun hm => ?_⟩
        have := h2 (by simpa [e] using hm)
        omega
      | false =>
        cases hpx : p x with
        | true =>
          simp only [List.filter_cons, hqx, hpx, if_true, Bool.false_eq_true, if_false, List.length_cons]
          exact ⟨by omega, fun _ => by omega⟩
        | false =>
          simp only [List.filter_cons, hqx, hpx, Bool.false_eq_true, if_false]
          exact ⟨h1, fun hm => h2 (by simpa [e] using hm)⟩
theorem repl_false (n j : Nat) : (Array.replicate n false).getD j false = false := by
  simp only [Array.getD_eq_getD_getElem?, Array.getElem?_replicate]
  split <;> rfl

theorem wpAny_fixed {Q : Exit → Act → World → Prop} {a0 : Act} {w0 : World} {vs : Nat → Value} (hd : dstApart ops = true) (hl : looksOk ops = true) (hcl : ∀ w w', F w → Ext w w' → F w')
    (hst : ∀ i o, ops[i]? = some o → (Region.wanted o (yielded ops (frameTo ops vs a0 i).tmps) = true ∧ StepOK P F o (frameTo ops vs a0 i) (vs i)) ∨ (Region.wanted o (yielded ops (frameTo ops vs a0 i).tmps) = false ∧ vs i = undef))
    (hQ : ∀ w, Ext w0 w → F w → Q .normal (frameTo ops vs a0 ops.size) w) :
    ∀ (fuel : Nat) (listed : Array Bool) (w : World), listed.size = ops.size → ((List.range ops.size).filter fun j => !listed.getD j true).length ≤ fuel →
      (∀ i j, listed.getD i false = true → waits ops i j = true → listed.getD j false = true) → F w → Ext w0 w →
      wpAny P .any ops Q fuel listed (frameOf ops vs (fun j => listed.getD j false) a0 ops.size) w := by
  -- whoever is not listed: the first of them may come up
  have first : ∀ listed : Array Bool, listed.size = ops.size → Region.ready .any ops listed = [] → ∀ i, i < ops.size → listed.getD i false = true := by
    intro listed hs hr i
    induction i using Nat.strongRecOn with
    | _ i ih =>
      intro hi
      cases hb : listed.getD i false with
      | true => rfl
      | false =>
        have ho : ops[i]? = some ops[i] := Array.getElem?_eq_getElem hi
        have hmem : i ∈ Region.ready .any ops listed := mem_ready.2 ⟨by
          have hli : i < listed.size := by omega
          simpa [Array.getD_eq_getD_getElem?, hli] using hb, _, ho, fun e he hbd => by
            have hl' := hl
            unfold looksOk at hl'
            rw [List.all_eq_true] at hl'
            have h1 := hl' i (by simpa using hi)
            rw [ho] at h1
            simp only [Bool.and_eq_true] at h1
            have h2 := h1.1.2
            have h3 := (Array.all_eq_true_iff_forall_mem.1 h2) e he
            rw [hbd] at h3
            simp at h3
            exact ih e.on h3 (by omega)⟩
        rw [hr] at hmem
        cases hmem
  have fin : ∀ (listed : Array Bool) (w : World), listed.size = ops.size → F w → Ext w0 w → Region.ready .any ops listed = [] → Q .normal (frameOf ops vs (fun j => listed.getD j false) a0 ops.size) w := by
    intro listed w hs hF hx hr
    have : frameOf ops vs (fun j => listed.getD j false) a0 ops.size = frameTo ops vs a0 ops.size := frame_congr _ fun j hj => first listed hs hr j hj
    rw [this]
    exact hQ w hx hF
  intro fuel
  induction fuel with
  | zero =>
    intro listed w hs hn hcld hF hx
    have hr : Region.ready .any ops listed = [] := by
      rw [List.eq_nil_iff_forall_not_mem]
      intro i hi
      obtain ⟨h0, o, ho, _⟩ := mem_ready.1 hi
      have : i ∈ (List.range ops.size).filter fun j => !listed.getD j true := List.mem_filter.2 ⟨by simpa using (Array.getElem?_eq_some_iff.1 ho).1, by simp [h0]⟩
      rw [List.eq_nil_of_length_eq_zero (Nat.le_zero.1 hn)] at this
      cases this
    exact ⟨hr, fin listed w hs hF hx hr⟩
  | succ fuel ih =>
    intro listed w hs hn hcld hF hx
    refine ⟨fin listed w hs hF hx, fun i hi => ?_⟩
    obtain ⟨h0, o, ho, hall⟩ := mem_ready.1 hi
    have hi' : i < ops.size := (Array.getElem?_eq_some_iff.1 ho).1
    have hLi : listed.getD i false = false := by
      have hli : i < listed.size := by omega
      simpa [Array.getD_eq_getD_getElem?, hli] using h0
    have hsel : isSelect o = false := by
      have hl' := hl
      unfold looksOk at hl'
      rw [List.all_eq_true] at hl'
      have h1 := hl' i (by simpa using hi')
      rw [ho] at h1
      simp only [Bool.and_eq_true, Bool.not_eq_true'] at h1
      exact h1.1.1
    refine wpOp_fixed (b := frameTo ops vs a0 i) ho hsel ?_ hF (hst i o ho) ?_
    · intro t ht
      rw [frameTo_eq ops.size (by omega)]
      refine frames_agree hd hl ho ?_ ?_ ⟨hLi, by simp⟩ ht
      · intro j hj hw
        obtain ⟨e, he, hb, rfl⟩ := (waits_spec ho).1 hw
        exact ⟨hall e he hb, by simp [hj]⟩
      · intro j hj hw
        refine ⟨?_, by simp; omega⟩
        cases hb : listed.getD j false with
        | false => rfl
        | true => rw [hcld j i hb hw] at hLi; cases hLi
    · intro w' hx'
      have hmore := frame_more hd (vs := vs) (L := fun j => listed.getD j false) (a0 := a0) hLi ops.size hi'
      have hput : (ops[i]?).bind (·.dst) = o.dst := by rw [ho]; rfl
      rw [hput] at hmore
      rw [← hmore]
      have hset : ∀ j, (listed.setIfInBounds i true).getD j false = (j == i || listed.getD j false) := fun j => by
        by_cases e : j = i
        · subst e
          have : j < listed.size := by omega
          simp [Array.getD_eq_getD_getElem?, this]
        · rw [getD_set_ne false (fun h => e h.symm)]
          have : (j == i) = false := by simpa using e
          rw [this, Bool.false_or]
      rw [show frameOf ops vs (fun j => j == i || listed.getD j false) a0 ops.size = frameOf ops vs (fun j => (listed.setIfInBounds i true).getD j false) a0 ops.size from frame_congr _ fun j _ => (hset j).symm]
      refine ih _ _ (by simpa using hs) ?_ ?_ (hcl w w' hF hx') (hx.trans hx')
      · have hlen : ((List.range ops.size).filter fun j => !(listed.setIfInBounds i true).getD j true).length < ((List.range ops.size).filter fun j => !listed.getD j true).length := by
          have hsz : i < listed.size := by omega
          refine (filter_less (p := fun j => !listed.getD j true) (q := fun j => !(listed.setIfInBounds i true).getD j true) (i := i) (by simp only [h0]; rfl) (by simp [Array.getD_eq_getD_getElem?, hsz]) _ ?_).2 (by simpa using hi')
          intro j hj hj'
          by_cases e : i = j
          · subst e
            simp [Array.getD_eq_getD_getElem?, hsz] at hj'
          · rw [getD_set_ne true e] at hj'; exact hj'
        omega
      · intro k j hk hw
        rw [hset] at hk ⊢
        by_cases e : k = i
        · subst e
          obtain ⟨e, he, hb, rfl⟩ := (waits_spec ho).1 hw
          rw [hall e he hb]; simp
        · have : (k == i) = false := by simpa using e
          rw [this, Bool.false_or] at hk
          rw [hcld k j hk hw]; simp

/-- **A region walked once**, whether its order is drawn or not. -/
theorem wp_region_fixed {Q : Exit → Act → World → Prop} {id : Nat} {l : List Oper} {draw : Bool} {a : Act} {w : World} (hm : P.follows .mixedOrders = true) (hok : fixedOk l.toArray = true)
    (hcl : ∀ w w', F w → Ext w w' → F w') (hF : F w) (h : Fixed P l.toArray F (fun a' => ∀ w', Ext w w' → F w' → Q .normal a' w') l a) : (Code.region id l.toArray draw).wp P Q a w := by
  have hd : dstApart l.toArray = true := by simp only [fixedOk, Bool.and_eq_true] at hok; exact hok.1
  have hl : looksOk l.toArray = true := by simp only [fixedOk, Bool.and_eq_true] at hok; exact hok.2
  obtain ⟨vs, _, hK, hst⟩ := Fixed.values (a0 := a) l 0 (fun _ => undef) (by simp) (by simp) h
  cases draw with
  | true =>
    refine wp_region_any hm ?_
    have := wpAny_fixed (Q := Q) hd hl hcl (fun i o ho => hst i o (Nat.zero_le _) ho) hK l.toArray.size (Array.replicate l.toArray.size false) w.drew (by simp) (by
      have := List.length_filter_le (fun j => !(Array.replicate l.toArray.size false).getD j true) (List.range l.toArray.size)
      simpa using this) (fun i j hi => by rw [repl_false] at hi; cases hi) (hcl w w.drew hF ((Ext.refl w).drew)) ((Ext.refl w).drew)
    rw [frame_congr (M := fun _ => false) l.toArray.size (fun j hj => repl_false _ _)] at this
    rw [show frameOf l.toArray vs (fun _ => false) a l.toArray.size = a from by
      generalize l.toArray.size = n
      induction n with
      | zero => rfl
      | succ n ih => unfold frameOf; simpa using ih] at this
    exact this
  | false =>
    refine wp_region ?_
    have key : ∀ (n : Nat) (w' : World), n ≤ l.toArray.size → Ext w w' → F w' → wpOps P l.toArray Q (List.range' (l.toArray.size - n) n) (frameTo l.toArray vs a (l.toArray.size - n)) w' := by
      intro n
      induction n with
      | zero => intro w' _ hx hF'; exact hK w' hx hF'
      | succ n ih =>
        intro w' hn hx hF'
        rw [List.range'_succ, wpOps_cons]
        have hlt : l.toArray.size - (n + 1) < l.toArray.size := by omega
        have ho : l.toArray[l.toArray.size - (n + 1)]? = some l.toArray[l.toArray.size - (n + 1)] := Array.getElem?_eq_getElem hlt
        have hsel : isSelect l.toArray[l.toArray.size - (n + 1)] = false := by
          have hl' := hl
          unfold looksOk at hl'
          rw [List.all_eq_true] at hl'
          have h1 := hl' _ (List.mem_range.2 hlt)
          rw [ho] at h1
          simp only [Bool.and_eq_true, Bool.not_eq_true'] at h1
          exact h1.1.1
        refine wpOp_fixed ho hsel (fun _ _ => rfl) hF' (hst _ _ (Nat.zero_le _) ho) fun w'' hx' => ?_
        have := ih w'' (by omega) (hx.trans hx') (hcl _ _ hF' hx')
        rw [show l.toArray.size - n = l.toArray.size - (n + 1) + 1 by omega] at this
        unfold frameTo at this
        conv at this => arg 5; unfold frameOf
        rw [if_pos rfl, ho] at this
        exact this
    have := key l.toArray.size w (Nat.le_refl _) (Ext.refl w) hF
    rw [Nat.sub_self] at this
    rw [List.range_eq_range']
    exact this
end
end Go.Proofs.YtbfccjjnnkomcaaDoor
