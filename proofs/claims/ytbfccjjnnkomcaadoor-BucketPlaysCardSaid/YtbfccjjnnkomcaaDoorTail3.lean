/- A region of quiet operations, of new blocks, and of a tail: the theorem. For any program. -/
import Derived.Test.YtbfccjjnnkomcaaDoorTail2
namespace Go.Proofs.YtbfccjjnnkomcaaDoor
open Go.RowKit
section
variable {P : Program} {ops : Array Oper}

def mkOf (ms : List Mark) (i : Nat) : Mark := (ms[i]?).getD .q
def OKat (P : Program) (ops : Array Oper) (F : World → Prop) (m : Mark) (o : Oper) (a : Act) (v : Value) : Prop := match m with
  | .q => (Region.wanted o (yielded ops a.tmps) = true ∧ StepOK P F o a v) ∨ (Region.wanted o (yielded ops a.tmps) = false ∧ v = undef)
  | .p => (Region.wanted o (yielded ops a.tmps) = true ∧ PureOK P o a v) ∨ (Region.wanted o (yielded ops a.tmps) = false ∧ v = undef)
  | .a cs t => ∀ w : World, (execOp a.eval o).run P w = .ok (.value (.pointer (some ⟨w.heap.size, 0, none⟩))) (w.alloc (.cells cs.toArray t))
  | .t => True
/-- the walk in the order of the text, over all but new blocks and the tail -/
def Walk (P : Program) (ops : Array Oper) (F : World → Prop) (K : Act → Prop) : List Mark → List Oper → Act → Prop
  | _, [], a => K a
  | [], _ :: _, _ => False
  | m :: ms, o :: rest, a => ∃ v, OKat P ops F m o a v ∧ Walk P ops F K ms rest (if m.isQ then a.put o.dst v else a)

variable {F : World → Prop} {K : Act → Prop} {o : Oper} {rest : List Oper} {a : Act} {ms : List Mark} {v : Value}
theorem Walk.done (h : K a) : Walk P ops F K ms [] a := by cases ms <;> exact h
theorem Walk.here {l : List Oper} (h : Walk P ops F K ms l a) : Walk P ops F K ms l a := h
theorem Walk.skipQ (hw : Region.wanted o (yielded ops a.tmps) = false) (h : Walk P ops F K ms rest (a.put o.dst undef)) : Walk P ops F K (.q :: ms) (o :: rest) a := ⟨undef, .inr ⟨hw, rfl⟩, h⟩
theorem Walk.skipP (hw : Region.wanted o (yielded ops a.tmps) = false) (h : Walk P ops F K ms rest (a.put o.dst undef)) : Walk P ops F K (.p :: ms) (o :: rest) a := ⟨undef, .inr ⟨hw, rfl⟩, h⟩
theorem Walk.val (hw : Region.wanted o (yielded ops a.tmps) = true) (hr : ∀ w, F w → (execOp a.eval o).run P w = .ok (.value v) w) (h : Walk P ops F K ms rest (a.put o.dst v)) : Walk P ops F K (.q :: ms) (o :: rest) a := ⟨v, .inl ⟨hw, .inl hr⟩, h⟩
theorem Walk.pure (hw : Region.wanted o (yielded ops a.tmps) = true) (hr : ∀ w, (execOp a.eval o).run P w = .ok (.value v) w) (h : Walk P ops F K ms rest (a.put o.dst v)) : Walk P ops F K (.p :: ms) (o :: rest) a := ⟨v, .inl ⟨hw, hr⟩, h⟩
theorem Walk.call {f : FuncId} {args : Array Value} (hw : Region.wanted o (yielded ops a.tmps) = true) (hr : ∀ w, F w → (execOp a.eval o).run P w = .ok (.enter f args) w)
    (hc : ∀ w, F w → Calls P f args w fun e w' => e = .returned v ∧ Ext w w') (h : Walk P ops F K ms rest (a.put o.dst v)) : Walk P ops F K (.q :: ms) (o :: rest) a := ⟨v, .inl ⟨hw, .inr ⟨f, args, hr, hc⟩⟩, h⟩
theorem Walk.blk {cs : List Value} {t : TypeId} (hr : ∀ w : World, (execOp a.eval o).run P w = .ok (.value (.pointer (some ⟨w.heap.size, 0, none⟩))) (w.alloc (.cells cs.toArray t))) (h : Walk P ops F K ms rest a) : Walk P ops F K (.a cs t :: ms) (o :: rest) a := ⟨undef, hr, h⟩
theorem Walk.tail (h : Walk P ops F K ms rest a) : Walk P ops F K (.t :: ms) (o :: rest) a := ⟨undef, trivial, h⟩
theorem Walk.guardT {j : Nat} {b : Bool} {d : Tmp} (_ : o.guard = some (j, true)) (_ : (ops[j]?).bind (·.dst) = some d) (_ : a.tmps[d]? = some (.bool b)) (h1 : b = true → Walk P ops F K ms (o :: rest) a) (h2 : b = false → Walk P ops F K ms (o :: rest) a) : Walk P ops F K ms (o :: rest) a := by
  cases hb : b
  · exact h2 hb
  · exact h1 hb
theorem Walk.guardF {j : Nat} {b : Bool} {d : Tmp} (_ : o.guard = some (j, false)) (_ : (ops[j]?).bind (·.dst) = some d) (_ : a.tmps[d]? = some (.bool b)) (h1 : b = false → Walk P ops F K ms (o :: rest) a) (h2 : b = true → Walk P ops F K ms (o :: rest) a) : Walk P ops F K ms (o :: rest) a := by
  cases hb : b
  · exact h1 hb
  · exact h2 hb

theorem frameQ_step {mk : Nat → Mark} (hd : dstApart ops = true) {us : Nat → Value} {a0 : Act} {n : Nat} {o : Oper} (ho : ops[n]? = some o) (v : Value) (hQ : (mk n).isQ = true) :
    frameQ ops mk (fun j => if j = n then v else us j) a0 (n + 1) = (frameQ ops mk us a0 n).put o.dst v := by
  have hn : n < ops.size := (Array.getElem?_eq_some_iff.1 ho).1
  have hm := frame_more hd (vs := fun j => if j = n then v else us j) (L := fun j => decide (j < n) && (mk j).isQ) (a0 := a0) (i := n) (by simp) ops.size hn
  rw [frame_vsL (vs := fun j => if j = n then v else us j) (us := us) (L := fun j => decide (j < n) && (mk j).isQ) (fun j hj => by
    simp only [Bool.and_eq_true, decide_eq_true_eq] at hj
    exact if_neg (by omega))] at hm
  unfold frameQ
  rw [show (ops[n]?).bind (·.dst) = o.dst by rw [ho]; rfl, if_pos rfl] at hm
  rw [← hm]
  refine frame_congr _ fun j _ => ?_
  by_cases e : j = n
  · subst e; simp [hQ]
  · have h1 : (j == n) = false := by simpa using e
    have h2 : decide (j < n + 1) = decide (j < n) := by simp; omega
    rw [h1, h2, Bool.false_or]
theorem frameQ_stay {mk : Nat → Mark} {us : Nat → Value} {a0 : Act} {n : Nat} (hQ : (mk n).isQ = false) : frameQ ops mk us a0 (n + 1) = frameQ ops mk us a0 n := by
  unfold frameQ
  refine frame_congr _ fun j _ => ?_
  by_cases e : j = n
  · subst e; simp [hQ]
  · have h2 : decide (j < n + 1) = decide (j < n) := by simp; omega
    rw [h2]
theorem frameQ_vs {mk : Nat → Mark} {us vs : Nat → Value} {a0 : Act} {n : Nat} (h : ∀ j, j < n → vs j = us j) : frameQ ops mk vs a0 n = frameQ ops mk us a0 n :=
  frame_vsL (fun j hj => h j (by simp only [Bool.and_eq_true, decide_eq_true_eq] at hj; exact hj.1)) _

theorem Walk.values {mk : Nat → Mark} (hd : dstApart ops = true) {a0 : Act} : ∀ (rest : List Oper) (ms : List Mark) (n : Nat) (us : Nat → Value), (∀ j, rest[j]? = ops[n + j]?) → n + rest.length = ops.size → (∀ j m, ms[j]? = some m → m = mk (n + j)) → Walk P ops F K ms rest (frameQ ops mk us a0 n) →
    ∃ vs : Nat → Value, (∀ j, j < n → vs j = us j) ∧ K (frameQ ops mk vs a0 ops.size) ∧ ∀ i o, n ≤ i → ops[i]? = some o → OKat P ops F (mk i) o (frameQ ops mk vs a0 i) (vs i)
  | [], ms, n, us, _, hn, _, h => ⟨us, fun _ _ => rfl, by rw [← hn]; cases ms <;> exact h, fun i o hi ho => by
      have := (Array.getElem?_eq_some_iff.1 ho).1
      simp at hn; omega⟩
  | _ :: _, [], _, _, _, _, _, h => h.elim
  | o :: rest, m :: ms, n, us, hr, hn, hms, h => by
    have ho : ops[n]? = some o := by simpa using (hr 0).symm
    have hr' : ∀ j, rest[j]? = ops[n + 1 + j]? := fun j => by
      have := hr (j + 1)
      simpa [Nat.add_assoc, Nat.add_comm 1 j] using this
    have hm : m = mk n := hms 0 m (by simp)
    have hms' : ∀ j m', ms[j]? = some m' → m' = mk (n + 1 + j) := fun j m' hj => by
      have := hms (j + 1) m' (by simpa using hj)
      rw [this]; congr 1; omega
    obtain ⟨v, hv, h⟩ := h
    have hf : frameQ ops mk (fun j => if j = n then v else us j) a0 (n + 1) = (if m.isQ then (frameQ ops mk us a0 n).put o.dst v else frameQ ops mk us a0 n) := by
      cases hQ : m.isQ with
      | true => rw [if_pos rfl]; exact frameQ_step hd ho v (by rw [← hm]; exact hQ)
      | false =>
        rw [if_neg (by simp), frameQ_stay (by rw [← hm]; exact hQ)]
        exact frameQ_vs fun j hj => if_neg (by omega)
    obtain ⟨vs, h1, h2, h3⟩ := Walk.values hd rest ms (n + 1) (fun j => if j = n then v else us j) hr' (by simp at hn; omega) hms' (by rw [hf]; exact h)
    refine ⟨vs, fun j hj => by rw [h1 j (by omega), if_neg (by omega)], h2, fun i o' hi ho' => ?_⟩
    by_cases e : i = n
    · subst e
      obtain rfl : o = o' := Option.some.inj (ho.symm.trans ho')
      rw [frameQ_vs (us := us) fun j hj => by rw [h1 j (by omega), if_neg (by omega)], h1 i (by omega), if_pos rfl, ← hm]
      exact hv
    · exact h3 i o' (by omega) ho'

/-- the new blocks that have been made -/
structure Made (mk : Nat → Mark) (L : Nat → Bool) (vs : Nat → Value) (base : Nat) (w : World) : Prop where
  at_ : ∀ i cs t, mk i = .a cs t → L i = true → ∃ b, vs i = .pointer (some ⟨b, 0, none⟩) ∧ base ≤ b ∧ w.heap[b]? = some (.cells cs.toArray t (0, 0))
  ne : ∀ i j, (mk i).isA = true → (mk j).isA = true → L i = true → L j = true → i ≠ j → vs i ≠ vs j
theorem Made.ext {mk : Nat → Mark} {L : Nat → Bool} {vs : Nat → Value} {base : Nat} {w w' : World} (h : Made mk L vs base w) (hx : Ext w w') : Made mk L vs base w' :=
  ⟨fun i cs t hi hl => by obtain ⟨b, h1, h2, h3⟩ := h.at_ i cs t hi hl; exact ⟨b, h1, h2, heap_keeps hx h3⟩, h.ne⟩
theorem Made.congr {mk : Nat → Mark} {L M : Nat → Bool} {vs us : Nat → Value} {base : Nat} {w : World} (h : Made mk L vs base w) (hL : ∀ i, (mk i).isA = true → M i = true → L i = true ∧ us i = vs i) : Made mk M us base w :=
  ⟨fun i cs t hi hl => by
    obtain ⟨h1, h2⟩ := hL i (by rw [hi]; rfl) hl
    rw [h2]; exact h.at_ i cs t hi h1, fun i j hi hj li lj hij => by
    obtain ⟨h1, h2⟩ := hL i hi li
    obtain ⟨h3, h4⟩ := hL j hj lj
    rw [h2, h4]; exact h.ne i j hi hj h1 h3 hij⟩

theorem phase1 {mk : Nat → Mark} {Q : Exit → Act → World → Prop} {a0 : Act} {vsQ : Nat → Value} {ws : World} (hok : tailOk ops mk = true) (hcl : ∀ w w', F w → Ext w w' → F w')
    (hst : ∀ i o, ops[i]? = some o → OKat P ops F (mk i) o (frameQ ops mk vsQ a0 i) (vsQ i))
    (hK : ∀ (vs : Nat → Value) (w : World), (∀ i, (mk i).isQ = true → vs i = vsQ i) → F w → Ext ws w → Made mk (fun i => decide (i < ops.size)) vs ws.heap.size w → ∀ QN : Exit → Act → World → Prop, (∀ a w, Q .normal a w → QN .normal a w) →
      wpList P ops QN (((List.range ops.size).filter fun i => (mk i).isT).filterMap (ops[·]?)) (frameOf ops vs (fun j => !(mk j).isT) a0 ops.size) w) :
    ∀ (fuel : Nat) (listed : Array Bool) (vs : Nat → Value) (w : World), listed.size = ops.size → ((List.range ops.size).filter fun j => !listed.getD j true).length ≤ fuel →
      (∀ i j, listed.getD i false = true → waits ops i j = true → listed.getD j false = true) → (∀ i, (mk i).isT = true → listed.getD i false = false) → (∀ i, (mk i).isQ = true → vs i = vsQ i) →
      F w → Ext ws w → Made mk (fun i => listed.getD i false) vs ws.heap.size w → wpAny P .any ops Q fuel listed (frameOf ops vs (fun j => listed.getD j false) a0 ops.size) w := by
  obtain ⟨hd, hl⟩ := tailOk_fixed hok
  have hpure : ∀ i o, ops[i]? = some o → mk i = .p → (Region.wanted o (yielded ops (frameQ ops mk vsQ a0 i).tmps) = true ∧ PureOK P o (frameQ ops mk vsQ a0 i) (vsQ i)) ∨ (Region.wanted o (yielded ops (frameQ ops mk vsQ a0 i).tmps) = false ∧ vsQ i = undef) := fun i o ho hp => by
    have := hst i o ho
    rw [hp] at this
    exact this
  obtain ⟨QN, hQN0⟩ : ∃ QN : Exit → Act → World → Prop, QN = fun e a w => e = .normal ∧ Q .normal a w := ⟨_, rfl⟩
  have q1 : ∀ a w, QN .normal a w → Q .normal a w := fun a w h => by rw [hQN0] at h; exact h.2
  have q2 : ∀ e a w, QN e a w → e = .normal := fun e a w h => by rw [hQN0] at h; exact h.1
  have q3 : ∀ a w, Q .normal a w → QN .normal a w := fun a w h => by rw [hQN0]; exact ⟨rfl, h⟩
  -- all is there that the tail waits for
  have turn : ∀ (fuel : Nat) (listed : Array Bool) (vs : Nat → Value) (w : World), listed.size = ops.size → ((List.range ops.size).filter fun j => !listed.getD j true).length ≤ fuel →
      (∀ i j, listed.getD i false = true → waits ops i j = true → listed.getD j false = true) → (∀ i, (mk i).isT = true → listed.getD i false = false) → (∀ i, (mk i).isQ = true → vs i = vsQ i) →
      F w → Ext ws w → Made mk (fun i => listed.getD i false) vs ws.heap.size w → (∀ i, i < ops.size → mk i ≠ .p → (mk i).isT = false → listed.getD i false = true) → wpAny P .any ops Q fuel listed (frameOf ops vs (fun j => listed.getD j false) a0 ops.size) w := by
    intro fuel listed vs w hs hn hcld hT hvs hF hx hM hqa
    have hk := hK vs w hvs hF hx (hM.congr fun i hA hi => ⟨by
      simp only [decide_eq_true_eq] at hi
      exact hqa i hi (fun e => by rw [e] at hA; cases hA) (by rcases (mk i).trio with h | h | h <;> simp_all), rfl⟩) QN q3
    refine phase2 hok q1 q2 hpure fuel listed vs a0 w ((List.range ops.size).filter fun i => (mk i).isT) rfl hs hn hcld hqa hvs (List.filter_congr (fun i _ => ?_)) ?_
    · cases hTi : (mk i).isT with
      | false => rfl
      | true => rw [hT i hTi]; rfl
    · rw [frame_congr (M := fun j => !(mk j).isT) ops.size (fun j _ => by
        cases hTj : (mk j).isT with
        | false => rfl
        | true => rw [hT j hTj]; rfl)]
      exact hk
  intro fuel
  induction fuel with
  | zero =>
    intro listed vs w hs hn hcld hT hvs hF hx hM
    refine turn 0 listed vs w hs hn hcld hT hvs hF hx hM fun i hi _ _ => ?_
    cases hb : listed.getD i false with
    | true => rfl
    | false =>
      have hsi : i < listed.size := by omega
      have : i ∈ (List.range ops.size).filter fun j => !listed.getD j true := List.mem_filter.2 ⟨by simpa using hi, by
        have : listed.getD i true = false := by simpa [Array.getD_eq_getD_getElem?, hsi] using hb
        simp [this]⟩
      rw [List.eq_nil_of_length_eq_zero (Nat.le_zero.1 hn)] at this
      cases this
  | succ fuel ih =>
    intro listed vs w hs hn hcld hT hvs hF hx hM
    refine ⟨fun hr => ?_, fun i hi => ?_⟩
    · exact (turn (fuel + 1) listed vs w hs hn hcld hT hvs hF hx hM fun i hi _ _ => all_listed hl hs hr i hi).1 hr
    obtain ⟨h0, o, ho, hall⟩ := mem_ready.1 hi
    have hi' : i < ops.size := (Array.getElem?_eq_some_iff.1 ho).1
    have hsi : i < listed.size := by omega
    have hLi : listed.getD i false = false := by simpa [Array.getD_eq_getD_getElem?, hsi] using h0
    have hwl : ∀ j, waits ops i j = true → listed.getD j false = true := fun j hj => by
      obtain ⟨e, he, hb, rfl⟩ := (waits_spec ho).1 hj
      exact hall e he hb
    have hlw : ∀ j, waits ops j i = true → listed.getD j false = false := fun j hj => by
      cases hb : listed.getD j false with
      | false => rfl
      | true => rw [hcld j i hb hj] at hLi; cases hLi
    have hset := set_getD hsi
    have hput : (ops[i]?).bind (·.dst) = o.dst := by rw [ho]; rfl
    have hsti := hst i o ho
    have hstep : ∀ w', (mk i).isT = false → (mk i).isA = false → Ext w w' → wpAny P .any ops Q fuel (listed.setIfInBounds i true) ((frameOf ops vs (fun j => listed.getD j false) a0 ops.size).put o.dst (vsQ i)) w' := by
      intro w' hTi hAi hx'
      have hQi : (mk i).isQ = true := by rcases (mk i).trio with h | h | h <;> simp_all
      have hmore := frame_more hd (vs := vs) (L := fun j => listed.getD j false) (a0 := a0) hLi ops.size hi'
      rw [hput, hvs i hQi] at hmore
      rw [← hmore, frame_congr (M := fun j => (listed.setIfInBounds i true).getD j false) ops.size (fun j _ => (hset j).symm)]
      refine ih _ vs w' (by simpa using hs) (set_count hsi hi' h0 hn) (set_closed hsi ho hall hcld) (fun j hj => ?_) hvs (hcl w w' hF hx') (hx.trans hx') ((hM.ext hx').congr fun j hA hj => ⟨?_, rfl⟩)
      · rw [hset, hT j hj, Bool.or_false]
        exact beq_false_of_ne fun e => by subst e; rw [hTi] at hj; cases hj
      · have : j ≠ i := fun e => by subst e; rw [hAi] at hA; cases hA
        have hb : (j == i) = false := by simpa using this
        have hj : (listed.setIfInBounds i true).getD j false = true := hj
        rw [hset, hb, Bool.false_or] at hj
        exact hj
    have hagree : ∀ t ∈ o.looksAt ops, (mk i).isT = false → (frameOf ops vs (fun j => listed.getD j false) a0 ops.size).tmps[t]? = (frameQ ops mk vsQ a0 i).tmps[t]? := fun t ht hTi => by
      unfold frameQ
      exact frames_agree2 hd hl rfl ho (fun j hj hw => ⟨hwl j hw, by simp [hj, waits_quiet hok hTi hw], hvs j (waits_quiet hok hTi hw)⟩) (fun j hj hw => ⟨hlw j hw, by simp; omega⟩) ht
    cases hm : mk i with
    | q =>
      have hTi : (mk i).isT = false := by rw [hm]; rfl
      have hAi : (mk i).isA = false := by rw [hm]; rfl
      rw [hm] at hsti
      exact wpOp_fixed ho (sel_of hl ho) (fun t ht => hagree t ht hTi) hF hsti fun w' hx' => hstep w' hTi hAi hx'
    | p =>
      have hTi : (mk i).isT = false := by rw [hm]; rfl
      have hAi : (mk i).isA = false := by rw [hm]; rfl
      rw [hm] at hsti
      exact wpOp_pure hl ho (fun t ht => hagree t ht hTi) hsti (hstep w hTi hAi (Ext.refl w))
    | a cs t =>
      have hTi : (mk i).isT = false := by rw [hm]; rfl
      have hAi : (mk i).isA = true := by rw [hm]; rfl
      have hQi : (mk i).isQ = false := by rw [hm]; rfl
      rw [hm] at hsti
      have hg := tailOk_guard hok ho hAi
      unfold wpOp
      simp only [ho]
      rw [if_pos (by simp [Region.wanted, hg])]
      refine .inl ?_
      unfold Oper.wp
      rw [exec_agree hl ho (fun t ht => hagree t ht hTi), hsti w]
      show wpAny P .any ops Q fuel (listed.setIfInBounds i true) ((frameOf ops vs (fun j => listed.getD j false) a0 ops.size).put o.dst (.pointer (some ⟨w.heap.size, 0, none⟩))) (w.alloc (.cells cs.toArray t))
      obtain ⟨us, hus⟩ : ∃ us : Nat → Value, us = fun j => if j = i then .pointer (some ⟨w.heap.size, 0, none⟩) else vs j := ⟨_, rfl⟩
      have hui : us i = .pointer (some ⟨w.heap.size, 0, none⟩) := by rw [hus]; simp
      have huo : ∀ j, j ≠ i → us j = vs j := fun j hj => by rw [hus]; simp [hj]
      have m1 := frame_more hd (vs := us) (L := fun j => listed.getD j false) (a0 := a0) hLi ops.size hi'
      rw [hput, hui, frame_vsL (us := vs) (L := fun j => listed.getD j false) (fun j hj => huo j (fun e => by have hj : listed.getD j false = true := hj; rw [e, hLi] at hj; cases hj))] at m1
      rw [← m1, frame_congr (M := fun j => (listed.setIfInBounds i true).getD j false) ops.size (fun j _ => (hset j).symm)]
      have hxa := (Ext.refl w).alloc (.cells cs.toArray t)
      have hMa := hM.ext hxa
      have hpast : ∀ j, (listed.setIfInBounds i true).getD j false = true → j ≠ i → listed.getD j false = true := fun j hj hne => by
        have hb : (j == i) = false := by simpa using hne
        rw [hset, hb, Bool.false_or] at hj
        exact hj
      have hold : ∀ j, (mk j).isA = true → listed.getD j false = true → us j ≠ .pointer (some ⟨w.heap.size, 0, none⟩) := fun j hA hj e => by
        have hne : j ≠ i := fun e => by subst e; rw [hLi] at hj; cases hj
        cases hmj : mk j with
        | a cs' t' =>
          obtain ⟨b, h1, h2, h3⟩ := hM.at_ j cs' t' hmj hj
          rw [huo j hne, h1] at e
          have : b < w.heap.size := heap_lt h3
          simp at e
          try omega
        | q => rw [hmj] at hA; cases hA
        | p => rw [hmj] at hA; cases hA
        | t => rw [hmj] at hA; cases hA
      refine ih _ us _ (by simpa using hs) (set_count hsi hi' h0 hn) (set_closed hsi ho hall hcld) (fun j hj => ?_) (fun j hj => ?_) (hcl w _ hF hxa) (hx.trans hxa) ⟨fun j cs' t' hj hlj => ?_, fun j k hj hk lj lk hjk => ?_⟩
      · rw [hset, hT j hj, Bool.or_false]
        exact beq_false_of_ne fun e => by subst e; rw [hTi] at hj; cases hj
      · rw [huo j (fun e => by subst e; rw [hQi] at hj; cases hj)]
        exact hvs j hj
      · by_cases e : j = i
        · subst e
          rw [hm] at hj
          injection hj with e1 e2
          subst e1 e2
          exact ⟨w.heap.size, hui, hx.size, heap_alloc_new w _⟩
        · rw [huo j e]
          exact hMa.at_ j cs' t' hj (hpast j hlj e)
      · by_cases e : j = i
        · subst e
          rw [hui]
          exact fun h => hold k hk (hpast k lk (fun e => hjk e.symm)) h.symm
        · by_cases e' : k = i
          · subst e'
            rw [hui]
            exact hold j hj (hpast j lj e)
          · rw [huo j e, huo k e']
            exact hMa.ne j k hj hk (hpast j lj e) (hpast k lk e') hjk
    | t =>
      have hTi : (mk i).isT = true := by rw [hm]; rfl
      refine (turn (fuel + 1) listed vs w hs hn hcld hT hvs hF hx hM fun j hj hnp hTj => ?_).2 i hi
      have hdep := tailOk_at hok hi' hj
      rw [hTi] at hdep
      refine deps_closed hcld 3 i j hwl ?_
      cases hmj : mk j with
      | q => rw [hmj] at hdep; simpa using hdep
      | a cs' t' => rw [hmj] at hdep; simpa using hdep
      | p => exact absurd hmj hnp
      | t => rw [hmj] at hTj; cases hTj

def tailsOf : List Oper → List Mark → List Oper
  | o :: l, .t :: ms => o :: tailsOf l ms
  | _ :: l, _ :: ms => tailsOf l ms
  | _, _ => []
def blksOf (bs : Nat → Nat) : List Mark → Nat → List Blk
  | [], _ => []
  | .a cs t :: ms, n => (bs n, cs, t) :: blksOf bs ms (n + 1)
  | _ :: ms, n => blksOf bs ms (n + 1)
def putB (bs : Nat → Nat) : List Oper → List Mark → Nat → Act → Act
  | o :: l, .a _ _ :: ms, n, a => putB bs l ms (n + 1) (a.put o.dst (.pointer (some ⟨bs n, 0, none⟩)))
  | _ :: l, _ :: ms, n, a => putB bs l ms (n + 1) a
  | _, _, _, a => a

theorem tails_eq {mk : Nat → Mark} : ∀ (rest : List Oper) (ms : List Mark) (n : Nat), rest.length = ms.length → (∀ j, rest[j]? = ops[n + j]?) → (∀ j m, ms[j]? = some m → m = mk (n + j)) →
    ((List.range' n rest.length).filter fun i => (mk i).isT).filterMap (ops[·]?) = tailsOf rest ms
  | [], _, _, _, _, _ => by simp [tailsOf]
  | _ :: _, [], _, h, _, _ => by simp at h
  | o :: rest, m :: ms, n, hlen, hr, hms => by
    have ho : ops[n]? = some o := by simpa using (hr 0).symm
    have hm : m = mk n := hms 0 m (by simp)
    have ih := tails_eq (mk := mk) rest ms (n + 1) (by simpa using hlen) (fun j => by
      have := hr (j + 1)
      simpa [Nat.add_assoc, Nat.add_comm 1 j] using this) (fun j m' hj => by
      have := hms (j + 1) m' (by simpa using hj)
      rw [this]; congr 1; omega)
    rw [List.length_cons, List.range'_succ, List.filter_cons]
    cases hmm : m with
    | t =>
      rw [if_pos (by rw [← hm, hmm]; rfl), List.filterMap_cons, ho]
      simp only [tailsOf]
      rw [ih]
    | q => rw [if_neg (by rw [← hm, hmm]; simp [Mark.isT]), ih]; rfl
    | p => rw [if_neg (by rw [← hm, hmm]; simp [Mark.isT]), ih]; rfl
    | a cs t => rw [if_neg (by rw [← hm, hmm]; simp [Mark.isT]), ih]; rfl
theorem mem_blks {bs : Nat → Nat} {x : Blk} : ∀ (ms : List Mark) (n : Nat), x ∈ blksOf bs ms n → ∃ j cs t, ms[j]? = some (.a cs t) ∧ x = (bs (n + j), cs, t)
  | [], _, h => by cases h
  | m :: ms, n, h => by
    have up : (∃ j cs t, ms[j]? = some (.a cs t) ∧ x = (bs (n + 1 + j), cs, t)) → ∃ j cs t, (m :: ms)[j]? = some (.a cs t) ∧ x = (bs (n + j), cs, t) := fun ⟨j, cs, t, h1, h2⟩ => ⟨j + 1, cs, t, by simpa using h1, by rw [h2, show n + 1 + j = n + (j + 1) by omega]⟩
    cases m with
    | a cs t =>
      simp only [blksOf, List.mem_cons] at h
      rcases h with rfl | h
      · exact ⟨0, cs, t, by simp, by simp⟩
      · exact up (mem_blks ms (n + 1) h)
    | q => exact up (mem_blks ms (n + 1) h)
    | p => exact up (mem_blks ms (n + 1) h)
    | t => exact up (mem_blks ms (n + 1) h)
theorem blks_apart {bs : Nat → Nat} : ∀ (ms : List Mark) (n : Nat), (∀ i j, i ≠ j → (∃ cs t, ms[i]? = some (.a cs t)) → (∃ cs t, ms[j]? = some (.a cs t)) → bs (n + i) ≠ bs (n + j)) → (blksOf bs ms n).Pairwise fun a b => a.1 ≠ b.1
  | [], _, _ => List.Pairwise.nil
  | m :: ms, n, h => by
    have ih := blks_apart (bs := bs) ms (n + 1) fun i j hij hi hj => by
      have := h (i + 1) (j + 1) (by omega) (by simpa using hi) (by simpa using hj)
      rwa [show n + 1 + i = n + (i + 1) by omega, show n + 1 + j = n + (j + 1) by omega]
    cases m with
    | a cs t =>
      refine List.Pairwise.cons (fun x hx => ?_) ih
      obtain ⟨j, cs', t', h1, rfl⟩ := mem_blks ms (n + 1) hx
      have := h 0 (j + 1) (by omega) ⟨cs, t, by simp⟩ ⟨cs', t', by simpa using h1⟩
      rwa [show n + 1 + j = n + (j + 1) by omega]
    | q => exact ih
    | p => exact ih
    | t => exact ih
theorem putB_eq {mk : Nat → Mark} (hd : dstApart ops = true) {bs : Nat → Nat} {vs : Nat → Value} {a0 : Act} (hv : ∀ i cs t, i < ops.size → mk i = .a cs t → vs i = .pointer (some ⟨bs i, 0, none⟩)) : ∀ (rest : List Oper) (ms : List Mark) (n : Nat), rest.length = ms.length → n + rest.length = ops.size → (∀ j, rest[j]? = ops[n + j]?) → (∀ j m, ms[j]? = some m → m = mk (n + j)) →
    putB bs rest ms n (frameOf ops vs (fun j => (mk j).isQ || (decide (j < n) && (mk j).isA)) a0 ops.size) = frameOf ops vs (fun j => !(mk j).isT) a0 ops.size
  | [], ms, n, _, hn, _, _ => by
    have : putB bs [] ms n (frameOf ops vs (fun j => (mk j).isQ || (decide (j < n) && (mk j).isA)) a0 ops.size) = frameOf ops vs (fun j => (mk j).isQ || (decide (j < n) && (mk j).isA)) a0 ops.size := by cases ms <;> rfl
    rw [this]
    refine frame_congr _ fun j hj => ?_
    have : decide (j < n) = true := by simp at hn; simp; omega
    rw [this]
    rcases (mk j).trio with ⟨h1, h2, h3⟩ | ⟨h1, h2, h3⟩ | ⟨h1, h2, h3⟩ <;> simp [h1, h2, h3]
  | _ :: _, [], _, h, _, _, _ => by simp at h
  | o :: rest, m :: ms, n, hlen, hn, hr, hms => by
    have ho : ops[n]? = some o := by simpa using (hr 0).symm
    have hnn : n < ops.size := (Array.getElem?_eq_some_iff.1 ho).1
    have hm : m = mk n := hms 0 m (by simp)
    have ih := putB_eq (mk := mk) hd (bs := bs) (vs := vs) (a0 := a0) hv rest ms (n + 1) (by simpa using hlen) (by simp at hn; omega) (fun j => by
      have := hr (j + 1)
      simpa [Nat.add_assoc, Nat.add_comm 1 j] using this) (fun j m' hj => by
      have := hms (j + 1) m' (by simpa using hj)
      rw [this]; congr 1; omega)
    have stay : (mk n).isA = false → frameOf ops vs (fun j => (mk j).isQ || (decide (j < n + 1) && (mk j).isA)) a0 ops.size = frameOf ops vs (fun j => (mk j).isQ || (decide (j < n) && (mk j).isA)) a0 ops.size := fun hA => by
      refine frame_congr _ fun j _ => ?_
      by_cases e : j = n
      · subst e; simp [hA]
      · have h2 : decide (j < n + 1) = decide (j < n) := by simp; omega
        rw [h2]
    cases hmm : m with
    | a cs t =>
      have hmn : mk n = .a cs t := by rw [← hm, hmm]
      have hm1 := frame_more hd (vs := vs) (L := fun j => (mk j).isQ || (decide (j < n) && (mk j).isA)) (a0 := a0) (i := n) (by simp [hmn, Mark.isQ]) ops.size hnn
      rw [show (ops[n]?).bind (·.dst) = o.dst by rw [ho]; rfl, hv n cs t hnn hmn] at hm1
      simp only [putB]
      rw [← hm1, ← ih]
      congr 1
      refine frame_congr _ fun j _ => ?_
      by_cases e : j = n
      · subst e; simp [hmn, Mark.isA]
      · have h1 : (j == n) = false := by simpa using e
        have h2 : decide (j < n + 1) = decide (j < n) := by simp; omega
        rw [h1, h2, Bool.false_or]
    | q =>
      have hA : (mk n).isA = false := by rw [← hm, hmm]; rfl
      rw [← ih, stay hA]; rfl
    | p =>
      have hA : (mk n).isA = false := by rw [← hm, hmm]; rfl
      rw [← ih, stay hA]; rfl
    | t =>
      have hA : (mk n).isA = false := by rw [← hm, hmm]; rfl
      rw [← ih, stay hA]; rfl

/-- **A region of quiet operations, of new blocks, and of a tail**, whatever order is drawn. -/
theorem wp_region_tail {w0 w : World} {L : List Blk} {Q : Exit → Act → World → Prop} {id : Nat} {l : List Oper} (ms : List Mark) (hm : P.follows .mixedOrders = true) (hlen : l.length = ms.length) (hok : tailOk l.toArray (mkOf ms) = true)
    (hS : St w0 w L) (h : Walk P l.toArray (fun W => St w0 W L) (fun a' => ∀ (bs : Nat → Nat) (w' : World), St w0 w' (blksOf bs ms 0 ++ L) → ∀ QN : Exit → Act → World → Prop, (∀ a w, Q .normal a w → QN .normal a w) →
      wpList P l.toArray QN (tailsOf l ms) (putB bs l ms 0 a') w') ms l a) : (Code.region id l.toArray true).wp P Q a w := by
  obtain ⟨hd, hl⟩ := tailOk_fixed hok
  have hcl : ∀ W W', St w0 W L → Ext W W' → St w0 W' L := fun _ _ h hx => St.step h hx
  have hmk : ∀ j m, ms[j]? = some m → m = mkOf ms j := fun j m hj => by simp [mkOf, hj]
  obtain ⟨vsQ, _, hK, hst⟩ := Walk.values (mk := mkOf ms) hd (a0 := a) l ms 0 (fun _ => undef) (by simp) (by simp) (fun j m hj => by rw [Nat.zero_add]; exact hmk j m hj) (by
    have : frameQ l.toArray (mkOf ms) (fun _ => undef) a 0 = a := by
      unfold frameQ
      generalize l.toArray.size = n
      induction n with
      | zero => rfl
      | succ n ih => unfold frameOf; simpa using ih
    rw [this]; exact h)
  refine wp_region_any hm ?_
  have hxd : Ext w w.drew := (Ext.refl w).drew
  have key := phase1 (Q := Q) (a0 := a) (vsQ := vsQ) (ws := w) hok hcl (fun i o ho => hst i o (Nat.zero_le _) ho) (fun vs w' hvs hF hx hM QN hQN => ?_) l.toArray.size (Array.replicate l.toArray.size false) vsQ w.drew (by simp) (by
      have := List.length_filter_le (fun j => !(Array.replicate l.toArray.size false).getD j true) (List.range l.toArray.size)
      simpa using this) (fun i j hi => by rw [repl_false] at hi; cases hi) (fun i _ => repl_false _ _) (fun _ _ => rfl) (hcl w w.drew hS hxd) hxd ⟨(fun i cs t _ hi => by have hi : (Array.replicate l.toArray.size false).getD i false = true := hi; rw [repl_false] at hi; cases hi), (fun i j _ _ hi _ _ => by have hi : (Array.replicate l.toArray.size false).getD i false = true := hi; rw [repl_false] at hi; cases hi)⟩
  · rw [frame_congr (M := fun _ => false) l.toArray.size (fun j hj => repl_false _ _)] at key
    rw [show frameOf l.toArray vsQ (fun _ => false) a l.toArray.size = a from by
      generalize l.toArray.size = n
      induction n with
      | zero => rfl
      | succ n ih => unfold frameOf; simpa using ih] at key
    exact key
  · obtain ⟨bs, hbs⟩ : ∃ bs : Nat → Nat, ∀ i cs t, i < l.toArray.size → mkOf ms i = .a cs t → vs i = .pointer (some ⟨bs i, 0, none⟩) := ⟨fun i => match vs i with | .pointer (some p) => p.block | _ => 0, fun i cs t hi hmi => by
      obtain ⟨b, h1, _, _⟩ := hM.at_ i cs t hmi (by simpa using hi)
      simp only [h1]⟩
    have hin : ∀ j cs t, ms[j]? = some (.a cs t) → j < l.toArray.size ∧ mkOf ms j = .a cs t := fun j cs t hj => ⟨by
      have := (List.getElem?_eq_some_iff.1 hj).1
      simp; omega, by simp [mkOf, hj]⟩
    have hS' : St w0 w' (blksOf bs ms 0 ++ L) := by
      refine ⟨hF.ext, List.pairwise_append.2 ⟨blks_apart ms 0 fun i j hij ⟨c1, t1, hi⟩ ⟨c2, t2, hj⟩ => ?_, hF.apart, fun x hx y hy => ?_⟩, fun x hx => ?_⟩
      · rw [Nat.zero_add, Nat.zero_add]
        obtain ⟨li, mi⟩ := hin i c1 t1 hi
        obtain ⟨lj, mj⟩ := hin j c2 t2 hj
        intro e
        refine hM.ne i j (by rw [mi]; rfl) (by rw [mj]; rfl) (by simpa using li) (by simpa using lj) hij ?_
        rw [hbs i c1 t1 li mi, hbs j c2 t2 lj mj, e]
      · obtain ⟨j, cs, t, hj, rfl⟩ := mem_blks ms 0 hx
        obtain ⟨lj, mj⟩ := hin j cs t hj
        obtain ⟨b, h1, h2, h3⟩ := hM.at_ j cs t mj (by simpa using lj)
        rw [hbs j cs t lj mj] at h1
        have hy' := heap_lt (hS.own y hy).2
        simp only [Nat.zero_add]
        simp at h1
        omega
      · rcases List.mem_append.1 hx with hx | hx
        · obtain ⟨j, cs, t, hj, rfl⟩ := mem_blks ms 0 hx
          obtain ⟨lj, mj⟩ := hin j cs t hj
          obtain ⟨b, h1, h2, h3⟩ := hM.at_ j cs t mj (by simpa using lj)
          rw [hbs j cs t lj mj] at h1
          simp only [Value.pointer.injEq, Option.some.injEq, Addr.mk.injEq, and_true] at h1
          simp only [Nat.zero_add]
          rw [h1]
          exact ⟨Nat.le_trans hS.ext.size h2, h3⟩
        · exact hF.own x hx
    have hw := hK bs w' hS' QN hQN
    have e1 : frameQ l.toArray (mkOf ms) vsQ a l.toArray.size = frameOf l.toArray vs (fun j => (mkOf ms j).isQ || (decide (j < 0) && (mkOf ms j).isA)) a l.toArray.size := by
      unfold frameQ
      rw [frame_congr (M := fun j => (mkOf ms j).isQ || (decide (j < 0) && (mkOf ms j).isA)) l.toArray.size (fun j hj => by rw [show decide (j < l.toArray.size) = true by simpa using hj]; simp)]
      exact frame_vsL (fun i hi => by
        have : (mkOf ms i).isQ = true := by simpa using hi
        exact (hvs i this).symm) _
    rw [e1, putB_eq hd hbs l ms 0 hlen (by simp) (by simp) (fun j m hj => by rw [Nat.zero_add]; exact hmk j m hj)] at hw
    have e2 := tails_eq (ops := l.toArray) (mk := mkOf ms) l ms 0 hlen (by simp) (fun j m hj => by rw [Nat.zero_add]; exact hmk j m hj)
    rw [← List.range_eq_range'] at e2
    rw [show l.toArray.size = l.length by simp]
    rw [e2]
    exact hw
end
end Go.Proofs.YtbfccjjnnkomcaaDoor
