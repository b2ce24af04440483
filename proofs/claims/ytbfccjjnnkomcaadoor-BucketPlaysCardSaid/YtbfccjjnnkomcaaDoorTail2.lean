/- A region of quiet operations, of new blocks, and of a tail: the two phases. For any program. -/
import Derived.Test.YtbfccjjnnkomcaaDoorTail
namespace Go.Proofs.YtbfccjjnnkomcaaDoor
open Go.RowKit
section
variable {P : Program} {ops : Array Oper} {mk : Nat → Mark}

theorem set_getD {listed : Array Bool} {i : Nat} (h : i < listed.size) (j : Nat) : (listed.setIfInBounds i true).getD j false = (j == i || listed.getD j false) := by
  by_cases e : j = i
  · subst e
    simp [Array.getD_eq_getD_getElem?, h]
  · rw [getD_set_ne false (fun h => e h.symm)]
    have : (j == i) = false := by simpa using e
    rw [this, Bool.false_or]
theorem set_count {listed : Array Bool} {i n f : Nat} (hs : i < listed.size) (hi : i < n) (h0 : listed.getD i true = false) (hn : ((List.range n).filter fun j => !listed.getD j true).length ≤ f + 1) :
    ((List.range n).filter fun j => !(listed.setIfInBounds i true).getD j true).length ≤ f := by
  have hlen : ((List.range n).filter fun j => !(listed.setIfInBounds i true).getD j true).length < ((List.range n).filter fun j => !listed.getD j true).length := by
    refine (filter_less (p := fun j => !listed.getD j true) (q := fun j => !(listed.setIfInBounds i true).getD j true) (i := i) (by simp only [h0]; rfl) (by simp [Array.getD_eq_getD_getElem?, hs]) _ ?_).2 (by simpa using hi)
    intro j hj hj'
    by_cases e : i = j
    · subst e
      simp [Array.getD_eq_getD_getElem?, hs] at hj'
    · rw [getD_set_ne true e] at hj'; exact hj'
  omega
theorem set_closed {listed : Array Bool} {i : Nat} {o : Oper} (hs : i < listed.size) (ho : ops[i]? = some o) (hall : ∀ e ∈ o.after, Region.binds .any e = true → listed.getD e.on false = true)
    (hcld : ∀ i j, listed.getD i false = true → waits ops i j = true → listed.getD j false = true) : ∀ k j, (listed.setIfInBounds i true).getD k false = true → waits ops k j = true → (listed.setIfInBounds i true).getD j false = true := by
  intro k j hk hw
  rw [set_getD hs] at hk ⊢
  by_cases e : k = i
  · subst e
    obtain ⟨e, he, hb, rfl⟩ := (waits_spec ho).1 hw
    rw [hall e he hb]; simp
  · have : (k == i) = false := by simpa using e
    rw [this, Bool.false_or] at hk
    rw [hcld k j hk hw]; simp

theorem tailOk_fixed (h : tailOk ops mk = true) : dstApart ops = true ∧ looksOk ops = true := by
  simp only [tailOk, fixedOk, Bool.and_eq_true] at h
  exact h.1
theorem tailOk_at (h : tailOk ops mk = true) {i j : Nat} (hi : i < ops.size) (hj : j < ops.size) : (if (mk i).isT then (match mk j with
        | .q => deps ops 3 i j
        | .a .. => deps ops 3 i j
        | .t => !decide (j < i) || deps ops 3 i j
        | .p => true)
      else !(waits ops i j && !(mk j).isQ)) = true := by
  simp only [tailOk, Bool.and_eq_true] at h
  have h2 := h.2
  rw [List.all_eq_true] at h2
  have h3 := h2 i (by simpa using hi)
  simp only [Bool.and_eq_true] at h3
  have h4 := h3.2
  rw [List.all_eq_true] at h4
  exact h4 j (by simpa using hj)
theorem tailOk_guard (h : tailOk ops mk = true) {i : Nat} {o : Oper} (ho : ops[i]? = some o) (hA : (mk i).isA = true) : o.guard = none := by
  have hi : i < ops.size := (Array.getElem?_eq_some_iff.1 ho).1
  simp only [tailOk, Bool.and_eq_true] at h
  have h2 := h.2
  rw [List.all_eq_true] at h2
  have h3 := h2 i (by simpa using hi)
  simp only [Bool.and_eq_true, hA, Bool.not_true, Bool.false_or, ho, Option.map_some, Option.getD_some] at h3
  simpa using h3.1
theorem waits_lt {i j : Nat} (h : waits ops i j = true) : i < ops.size := by
  rcases Nat.lt_or_ge i ops.size with h' | h'
  · exact h'
  · simp [waits, Array.getElem?_eq_none h'] at h
theorem waits_on {i j : Nat} (hl : looksOk ops = true) (h : waits ops i j = true) : j < i := by
  have hi := waits_lt h
  have ho : ops[i]? = some ops[i] := Array.getElem?_eq_getElem hi
  obtain ⟨e, he, hb, rfl⟩ := (waits_spec ho).1 h
  unfold looksOk at hl
  rw [List.all_eq_true] at hl
  have h1 := hl i (by simpa using hi)
  rw [ho] at h1
  simp only [Bool.and_eq_true] at h1
  have h3 := (Array.all_eq_true_iff_forall_mem.1 h1.1.2) e he
  rw [hb] at h3
  simpa using h3
/-- who is not of the tail waits for quiet ones alone -/
theorem waits_quiet (h : tailOk ops mk = true) {i j : Nat} (hT : (mk i).isT = false) (hw : waits ops i j = true) : (mk j).isQ = true := by
  have hi := waits_lt hw
  have hj := Nat.lt_trans (waits_on (tailOk_fixed h).2 hw) hi
  have := tailOk_at h hi hj
  rw [hT, hw] at this
  simpa using this

/-- the quiet ones, ahead of operation i -/
def frameQ (ops : Array Oper) (mk : Nat → Mark) (vs : Nat → Value) (a0 : Act) (i : Nat) : Act := frameOf ops vs (fun j => decide (j < i) && (mk j).isQ) a0 ops.size
def PureOK (P : Program) (o : Oper) (a : Act) (v : Value) : Prop := ∀ w, (execOp a.eval o).run P w = .ok (.value v) w

theorem sel_of (hl : looksOk ops = true) {i : Nat} {o : Oper} (ho : ops[i]? = some o) : isSelect o = false := by
  unfold looksOk at hl
  rw [List.all_eq_true] at hl
  have h1 := hl i (by simpa using (Array.getElem?_eq_some_iff.1 ho).1)
  rw [ho] at h1
  simp only [Bool.and_eq_true, Bool.not_eq_true'] at h1
  exact h1.1.1
theorem exec_agree (hl : looksOk ops = true) {i : Nat} {o : Oper} (ho : ops[i]? = some o) {a b : Act} (h : ∀ t ∈ o.looksAt ops, a.tmps[t]? = b.tmps[t]?) : execOp a.eval o = execOp b.eval o :=
  execOp_congr o (fun cs c e => by have := sel_of hl ho; simp [isSelect, e] at this) (eval_agree h)

theorem wpOp_pure {Q : Exit → Act → World → Prop} {i : Nat} {o : Oper} (hl : looksOk ops = true) (hi : ops[i]? = some o) {a b : Act} {w : World} {v : Value} {K : Act → World → Prop}
    (hab : ∀ t ∈ o.looksAt ops, a.tmps[t]? = b.tmps[t]?) (hs : (Region.wanted o (yielded ops b.tmps) = true ∧ PureOK P o b v) ∨ (Region.wanted o (yielded ops b.tmps) = false ∧ v = undef))
    (h : K (a.put o.dst v) w) : wpOp P ops Q i K a w := by
  unfold wpOp
  simp only [hi]
  rw [wanted_agree hab]
  rcases hs with ⟨hw, hr⟩ | ⟨hw, rfl⟩
  · rw [if_pos hw]
    refine .inl ?_
    unfold Oper.wp
    rw [exec_agree hl hi hab, hr w]
    exact h
  · rw [hw]
    exact h
theorem frame_vsL {vs us : Nat → Value} {L : Nat → Bool} {a0 : Act} (h : ∀ i, L i = true → vs i = us i) : ∀ n, frameOf ops vs L a0 n = frameOf ops us L a0 n
  | 0 => rfl
  | n + 1 => by
    unfold frameOf
    rw [frame_vsL h n]
    split
    · rename_i hl
      rw [h n hl]
    · rfl
theorem filter_head {p q : Nat → Bool} {i n : Nat} (hi : i < n) (h1 : ∀ j, j < i → p j = false) (h2 : p i = true) (h3 : ∀ j, q j = (p j && j != i)) : (List.range n).filter p = i :: (List.range n).filter q := by
  have hr : List.range n = List.range i ++ i :: List.range' (i + 1) (n - i - 1) := by
    rw [List.range_eq_range', List.range_eq_range', ← List.range'_succ, show n - i - 1 + 1 = n - i by omega]
    have := List.range'_append (s := 0) (m := i) (n := n - i) (step := 1)
    simp only [Nat.one_mul, Nat.zero_add] at this
    rw [this, show i + (n - i) = n by omega]
  rw [hr, List.filter_append, List.filter_append, List.filter_cons, List.filter_cons, if_pos h2, if_neg (by rw [h3]; simp)]
  have e1 : (List.range i).filter p = [] := List.filter_eq_nil_iff.2 fun j hj => by rw [h1 j (by simpa using hj)]; simp
  have e2 : (List.range i).filter q = [] := List.filter_eq_nil_iff.2 fun j hj => by rw [h3, h1 j (by simpa using hj)]; simp
  rw [e1, e2]
  simp only [List.nil_append, List.cons.injEq, true_and]
  refine List.filter_congr fun j hj => ?_
  rw [h3]
  have : i + 1 ≤ j := (List.mem_range'_1.1 hj).1
  have : (j != i) = true := by simp; omega
  rw [this, Bool.and_true]

theorem phase2 {Q QN : Exit → Act → World → Prop} {a00 : Act} {vsQ : Nat → Value} (hok : tailOk ops mk = true) (hQN : ∀ a w, QN .normal a w → Q .normal a w) (hQN' : ∀ e a w, QN e a w → e = .normal)
    (hpure : ∀ i o, ops[i]? = some o → mk i = .p → (Region.wanted o (yielded ops (frameQ ops mk vsQ a00 i).tmps) = true ∧ PureOK P o (frameQ ops mk vsQ a00 i) (vsQ i)) ∨ (Region.wanted o (yielded ops (frameQ ops mk vsQ a00 i).tmps) = false ∧ vsQ i = undef)) :
    ∀ (fuel : Nat) (listed : Array Bool) (vs : Nat → Value) (a0 : Act) (w : World) (rest : List Nat), a0.tmps = a00.tmps → listed.size = ops.size → ((List.range ops.size).filter fun j => !listed.getD j true).length ≤ fuel →
      (∀ i j, listed.getD i false = true → waits ops i j = true → listed.getD j false = true) →
      (∀ i, i < ops.size → mk i ≠ .p → (mk i).isT = false → listed.getD i false = true) → (∀ i, (mk i).isQ = true → vs i = vsQ i) →
      rest = (List.range ops.size).filter (fun i => (mk i).isT && !listed.getD i false) →
      wpList P ops QN (rest.filterMap (ops[·]?)) (frameOf ops vs (fun j => !(mk j).isT || listed.getD j false) a0 ops.size) w →
      wpAny P .any ops Q fuel listed (frameOf ops vs (fun j => listed.getD j false) a0 ops.size) w := by
  obtain ⟨hd, hl⟩ := tailOk_fixed hok
  have fin : ∀ (listed : Array Bool) (vs : Nat → Value) (a0 : Act) (w : World) (rest : List Nat), listed.size = ops.size → rest = (List.range ops.size).filter (fun i => (mk i).isT && !listed.getD i false) →
      wpList P ops QN (rest.filterMap (ops[·]?)) (frameOf ops vs (fun j => !(mk j).isT || listed.getD j false) a0 ops.size) w → Region.ready .any ops listed = [] → Q .normal (frameOf ops vs (fun j => listed.getD j false) a0 ops.size) w := by
    intro listed vs a0 w rest hs hrest hw hr
    have hall := all_listed hl hs hr
    have : rest = [] := by
      rw [hrest, List.filter_eq_nil_iff]
      intro i hi
      simp [hall i (by simpa using hi)]
    subst this
    rw [frame_congr (M := fun j => !(mk j).isT || listed.getD j false) ops.size (fun j hj => by simp [hall j hj])]
    exact hQN _ _ hw
  intro fuel
  induction fuel with
  | zero =>
    intro listed vs a0 w rest _ hs hn _ _ _ hrest hw
    have hr : Region.ready .any ops listed = [] := by
      rw [List.eq_nil_iff_forall_not_mem]
      intro i hi
      obtain ⟨h0, o, ho, _⟩ := mem_ready.1 hi
      have : i ∈ (List.range ops.size).filter fun j => !listed.getD j true := List.mem_filter.2 ⟨by simpa using (Array.getElem?_eq_some_iff.1 ho).1, by simp [h0]⟩
      rw [List.eq_nil_of_length_eq_zero (Nat.le_zero.1 hn)] at this
      cases this
    exact ⟨hr, fin listed vs a0 w rest hs hrest hw hr⟩
  | succ fuel ih =>
    intro listed vs a0 w rest h00 hs hn hcld hqa hvs hrest hw
    refine ⟨fin listed vs a0 w rest hs hrest hw, fun i hi => ?_⟩
    obtain ⟨h0, o, ho, hall⟩ := mem_ready.1 hi
    have hi' : i < ops.size := (Array.getElem?_eq_some_iff.1 ho).1
    have hsi : i < listed.size := by omega
    have hLi : listed.getD i false = false := by simpa [Array.getD_eq_getD_getElem?, hsi] using h0
    have hwl : ∀ j, waits ops i j = true → listed.getD j false = true := fun j hj => by
      obtain ⟨e, he, hb, rfl⟩ := (waits_spec ho).1 hj
      exact hall e he hb
    have hlw : ∀ j, waits ops j i = true → listed.getD j false = false := fun j hj => by
      cases hb : listed.getD j false with
      | false => rfl
      | true => rw [hcld j i hb hj] at hLi; cases hLi
    have hset := set_getD hsi
    cases hT : (mk i).isT with
    | false =>
      have hp : mk i = .p := by
        by_cases e : mk i = .p
        · exact e
        · rw [hqa i hi' e hT] at hLi; cases hLi
      have hput : (ops[i]?).bind (·.dst) = o.dst := by rw [ho]; rfl
      have hwQ : vs i = vsQ i := hvs i (by rw [hp]; rfl)
      refine wpOp_pure (b := frameQ ops mk vsQ a00 i) (v := vsQ i) hl ho ?_ (hpure i o ho hp) ?_
      · intro t ht
        unfold frameQ
        refine frames_agree2 hd hl h00 ho (fun j hj hw => ⟨hwl j hw, ?_, ?_⟩) (fun j hj hw => ⟨hlw j hw, by simp; omega⟩) ht
        · simp [hj, waits_quiet hok hT hw]
        · exact hvs j (waits_quiet hok hT hw)
      · have hmore := frame_more hd (vs := vs) (L := fun j => listed.getD j false) (a0 := a0) hLi ops.size hi'
        rw [hput, hwQ] at hmore
        rw [← hmore, frame_congr (M := fun j => (listed.setIfInBounds i true).getD j false) ops.size (fun j _ => (hset j).symm)]
        refine ih _ vs a0 w rest h00 (by simpa using hs) (set_count hsi hi' h0 hn) (set_closed hsi ho hall hcld) (fun j hj h1 h2 => by rw [hset, hqa j hj h1 h2]; simp) hvs ?_ ?_
        · rw [hrest]
          refine List.filter_congr fun j _ => ?_
          rw [hset]
          by_cases e : j = i
          · subst e; simp [hT]
          · have : (j == i) = false := by simpa using e
            rw [this, Bool.false_or]
        · rw [frame_congr (M := fun j => !(mk j).isT || listed.getD j false) ops.size (fun j _ => by
            rw [hset]
            by_cases e : j = i
            · subst e; simp [hT]
            · have : (j == i) = false := by simpa using e
              rw [this, Bool.false_or])]
          exact hw
    | true =>
      have hput : (ops[i]?).bind (·.dst) = o.dst := by rw [ho]; rfl
      have hnQ : ∀ j, (mk j).isQ = true → j ≠ i := fun j hj e => by subst e; rcases (mk j).trio with h | h | h <;> simp_all
      have hhead : rest = i :: (List.range ops.size).filter (fun j => (mk j).isT && !(listed.setIfInBounds i true).getD j false) := by
        rw [hrest]
        refine filter_head hi' (fun j hj => ?_) (by simp [hT, hLi]) (fun j => ?_)
        · cases hTj : (mk j).isT with
          | false => simp
          | true =>
            have hdep := tailOk_at hok hi' (Nat.lt_trans hj hi')
            rw [hT] at hdep
            have hmt : mk j = .t := by cases hm : mk j <;> simp_all [Mark.isT]
            rw [hmt] at hdep
            simp only [if_true, hj, decide_true, Bool.not_true, Bool.false_or] at hdep
            rw [deps_closed hcld 3 i j hwl hdep]; simp
        · rw [hset]
          by_cases e : j = i
          · subst e; simp
          · have : (j == i) = false := by simpa using e
            have h' : (j != i) = true := by simpa using e
            rw [this, h', Bool.false_or, Bool.and_true]
      rw [hhead, List.filterMap_cons, ho] at hw
      have hLf : ∀ j, (!(mk j).isT || (listed.setIfInBounds i true).getD j false) = (j == i || (!(mk j).isT || listed.getD j false)) := fun j => by
        rw [hset]
        by_cases e : j = i
        · subst e; simp
        · have : (j == i) = false := by simpa using e
          rw [this]; simp
      have hgo : ∀ (v : Value) (w' : World) (ds : List Deferred), wpList P ops QN ((List.filter (fun j => (mk j).isT && !(listed.setIfInBounds i true).getD j false) (List.range ops.size)).filterMap (ops[·]?)) ((frameOf ops vs (fun j => !(mk j).isT || listed.getD j false) { a0 with defers := ds } ops.size).put o.dst v) w' →
          wpAny P .any ops Q fuel (listed.setIfInBounds i true) ((frameOf ops vs (fun j => listed.getD j false) { a0 with defers := ds } ops.size).put o.dst v) w' := by
        intro v w' ds hw'
        obtain ⟨us, hus⟩ : ∃ us : Nat → Value, us = fun j => if j = i then v else vs j := ⟨_, rfl⟩
        have hui : us i = v := by rw [hus]; simp
        have huo : ∀ j, j ≠ i → us j = vs j := fun j hj => by rw [hus]; simp [hj]
        have m1 := frame_more hd (vs := us) (L := fun j => listed.getD j false) (a0 := { a0 with defers := ds }) hLi ops.size hi'
        have m2 := frame_more hd (vs := us) (L := fun j => !(mk j).isT || listed.getD j false) (a0 := { a0 with defers := ds }) (i := i) (by rw [hT, hLi]; rfl) ops.size hi'
        rw [hput, hui, frame_vsL (us := vs) (L := fun j => listed.getD j false) (fun j hj => huo j (fun e => by have hj : listed.getD j false = true := hj; rw [e, hLi] at hj; cases hj))] at m1
        rw [hput, hui, frame_vsL (us := vs) (L := fun j => !(mk j).isT || listed.getD j false) (fun j hj => huo j (fun e => by have hj : (!(mk j).isT || listed.getD j false) = true := hj; rw [e, hT, hLi] at hj; cases hj))] at m2
        rw [← m1, frame_congr (M := fun j => (listed.setIfInBounds i true).getD j false) ops.size (fun j _ => (hset j).symm)]
        rw [← m2, frame_congr (M := fun j => !(mk j).isT || (listed.setIfInBounds i true).getD j false) ops.size (fun j _ => (hLf j).symm)] at hw'
        exact ih _ us { a0 with defers := ds } w' _ h00 (by simpa using hs) (set_count hsi hi' h0 hn) (set_closed hsi ho hall hcld) (fun j hj h1 h2 => by rw [hset, hqa j hj h1 h2]; simp)
          (fun j hj => by rw [huo j (hnQ j hj)]; exact hvs j hj) rfl hw'
      have hab : ∀ t ∈ o.looksAt ops, (frameOf ops vs (fun j => listed.getD j false) a0 ops.size).tmps[t]? = (frameOf ops vs (fun j => !(mk j).isT || listed.getD j false) a0 ops.size).tmps[t]? := fun t ht =>
        frames_agree2 hd hl rfl ho (fun j hj hw => ⟨hwl j hw, by simp [hwl j hw], rfl⟩) (fun j hj hw => ⟨hlw j hw, by
          cases hTj : (mk j).isT with
          | true => simp [hlw j hw]
          | false =>
            have := waits_quiet hok hTj hw
            exact absurd rfl (hnQ i this)⟩) ht
      have e0 : ∀ (L : Nat → Bool) (ds : List Deferred), ({ frameOf ops vs L a0 ops.size with defers := ds } : Act) = frameOf ops vs L { a0 with defers := ds } ops.size := fun L ds => (frame_defers ops.size).symm
      have e1 : ∀ (L : Nat → Bool), (frameOf ops vs L a0 ops.size).defers = a0.defers := fun L => (frame_size ops.size).2
      unfold wpOp
      simp only [ho]
      rw [wanted_agree hab]
      unfold wpList at hw
      split at hw
      · rename_i hwt
        rw [if_pos hwt]
        rcases hw with hw | ⟨_, a', w'', hw⟩
        · refine .inl (wp_transfer (exec_agree hl ho hab) hQN' (fun v w' h => hgo v w' a0.defers h) (fun d w' h => ?_) hw)
          rw [e0, e1] at h ⊢
          exact hgo undef w' _ h
        · cases hQN' _ _ _ hw
      · rename_i hwt
        rw [if_neg hwt]
        exact hgo undef w a0.defers hw
end
end Go.Proofs.YtbfccjjnnkomcaaDoor
