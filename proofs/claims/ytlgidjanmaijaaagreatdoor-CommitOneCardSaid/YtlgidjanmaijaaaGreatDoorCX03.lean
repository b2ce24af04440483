/- Texts joined: A region of quiet operations, of new blocks, and of a tail: the two phases. For any program. A region of quiet operations, of new blocks, and of a tail: the theorem. For any program. A region of quiet operations and of a chain: the operations of the chain come one behind the other, whatever order is drawn, and may turn what the call owns; the quiet ones come when they like. For any program. Regions under Hp: quiet operations and a chain that turns what the call owns. For any program. errors.As at an Errno: by the way of the guide's ToyasAs. In place: a row is shrunk, appended to where there is room, cleared behind its end. For any program. room for elements to come: append(nil, make(n)) cut to nothing, under Hp. For any program. -/
import Derived.Test.YtlgidjanmaijaaaGreatDoorCX02
import Derived.Test.YtlgidjanmaijaaaGreatDoorProg
import Derived.LaidEql
import Derived.Stop.Asserts
import Derived.RowKitTokens
import Derived.Deep.DeepAppendRoom
import Derived.Lib.SliceRun
import Derived.Lib.AppendZeros
/- A region of quiet operations, of new blocks, and of a tail: the two phases. For any program. -/
namespace Go.Proofs.YtlgidjanmaijaaaGreatDoor
set_option linter.all false
open Go.RowKit
section
variable {P : Program} {ops : Array Oper} {mk : Nat → Mark}

theorem set_getD {listed : Array Bool} {i : Nat} (h : i < listed.size) (j : Nat) : (listed.setIfInBounds i true).getD j false = (j == i || listed.getD j false) := by
  by_cases e : j = i
  · subst e
    simp [Array.getD_eq_getD_getElem?, h]
  · rw [getD_set_ne false (fun h => e h.symm)]
    have : (j == i) = false := by simpa using e
    rw [this, Bool.false_or]
theorem set_count {listed : Array Bool} {i n f : Nat} (hs : i < listed.size) (hi : i < n) (h0 : listed.getD i true = false) (hn : ((List.range n).filter fun j => !listed.getD j true).length ≤ f + 1) :
    ((List.range n).filter fun j => !(listed.setIfInBounds i true).getD j true).length ≤ f := by
  have hlen : ((List.range n).filter fun j => !(listed.setIfInBounds i true).getD j true).length < ((List.range n).filter fun j => !listed.getD j true).length := by
    refine (filter_less (p := fun j => !listed.getD j true) (q := fun j => !(listed.setIfInBounds i true).getD j true) (i := i) (by simp only [h0]; rfl) (by simp [Array.getD_eq_getD_getElem?, hs]) _ ?_).2 (by simpa using hi)
    intro j hj hj'
    by_cases e : i = j
    · subst e
      simp [Array.getD_eq_getD_getElem?, hs] at hj'
    · rw [getD_set_ne true e] at hj'; exact hj'
  omega
theorem set_closed {listed : Array Bool} {i : Nat} {o : Oper} (hs : i < listed.size) (ho : ops[i]? = some o) (hall : ∀ e ∈ o.after, Region.binds .any e = true → listed.getD e.on false = true)
    (hcld : ∀ i j, listed.getD i false = true → waits ops i j = true → listed.getD j false = true) : ∀ k j, (listed.setIfInBounds i true).getD k false = true → waits ops k j = true → (listed.setIfInBounds i true).getD j false = true := by
  intro k j hk hw
  rw [set_getD hs] at hk ⊢
  by_cases e : k = i
  · subst e
    obtain ⟨e, he, hb, rfl⟩ := (waits_spec ho).1 hw
    rw [hall e he hb]; simp
  · have : (k == i) = false := by simpa using e
    rw [this, Bool.false_or] at hk
    rw [hcld k j hk hw]; simp

theorem tailOk_fixed (h : tailOk ops mk = true) : dstApart ops = true ∧ looksOk ops = true := by
  simp only [tailOk, fixedOk, Bool.and_eq_true] at h
  exact h.1
theorem tailOk_at (h : tailOk ops mk = true) {i j : Nat} (hi : i < ops.size) (hj : j < ops.size) : (if (mk i).isT then (match mk j with
        | .q => deps ops 3 i j
        | .a .. => deps ops 3 i j
        | .t => !decide (j < i) || deps ops 3 i j
        | .p => true)
      else !(waits ops i j && !(mk j).isQ)) = true := by
  simp only [tailOk, Bool.and_eq_true] at h
  have h2 := h.2
  rw [List.all_eq_true] at h2
  have h3 := h2 i (by simpa using hi)
  simp only [Bool.and_eq_true] at h3
  have h4 := h3.2
  rw [List.all_eq_true] at h4
  exact h4 j (by simpa using hj)
theorem tailOk_guard (h : tailOk ops mk = true) {i : Nat} {o : Oper} (ho : ops[i]? = some o) (hA : (mk i).isA = true) : o.guard = none := by
  have hi : i < ops.size := (Array.getElem?_eq_some_iff.1 ho).1
  simp only [tailOk, Bool.and_eq_true] at h
  have h2 := h.2
  rw [List.all_eq_true] at h2
  have h3 := h2 i (by simpa using hi)
  simp only [Bool.and_eq_true, hA, Bool.not_true, Bool.false_or, ho, Option.map_some, Option.getD_some] at h3
  simpa using h3.1
theorem waits_lt {i j : Nat} (h : waits ops i j = true) : i < ops.size := by
  rcases Nat.lt_or_ge i ops.size with h' | h'
  · exact h'
  · simp [waits, Array.getElem?_eq_none h'] at h
theorem waits_on {i j : Nat} (hl : looksOk ops = true) (h : waits ops i j = true) : j < i := by
  have hi := waits_lt h
  have ho : ops[i]? = some ops[i] := Array.getElem?_eq_getElem hi
  obtain ⟨e, he, hb, rfl⟩ := (waits_spec ho).1 h
  unfold looksOk at hl
  rw [List.all_eq_true] at hl
  have h1 := hl i (by simpa using hi)
  rw [ho] at h1
  simp only [Bool.and_eq_true] at h1
  have h3 := (Array.all_eq_true_iff_forall_mem.1 h1.1.2) e he
  rw [hb] at h3
  simpa using h3
/-- who is not of the tail waits for quiet ones alone -/
theorem waits_quiet (h : tailOk ops mk = true) {i j : Nat} (hT : (mk i).isT = false) (hw : waits ops i j = true) : (mk j).isQ = true := by
  have hi := waits_lt hw
  have hj := Nat.lt_trans (waits_on (tailOk_fixed h).2 hw) hi
  have := tailOk_at h hi hj
  rw [hT, hw] at this
  simpa using this

/-- the quiet ones, ahead of operation i -/
def frameQ (ops : Array Oper) (mk : Nat → Mark) (vs : Nat → Value) (a0 : Act) (i : Nat) : Act := frameOf ops vs (fun j => decide (j < i) && (mk j).isQ) a0 ops.size
def PureOK (P : Program) (o : Oper) (a : Act) (v : Value) : Prop := ∀ w, (execOp a.eval o).run P w = .ok (.value v) w

theorem sel_of (hl : looksOk ops = true) {i : Nat} {o : Oper} (ho : ops[i]? = some o) : isSelect o = false := by
  unfold looksOk at hl
  rw [List.all_eq_true] at hl
  have h1 := hl i (by simpa using (Array.getElem?_eq_some_iff.1 ho).1)
  rw [ho] at h1
  simp only [Bool.and_eq_true, Bool.not_eq_true'] at h1
  exact h1.1.1
theorem exec_agree (hl : looksOk ops = true) {i : Nat} {o : Oper} (ho : ops[i]? = some o) {a b : Act} (h : ∀ t ∈ o.looksAt ops, a.tmps[t]? = b.tmps[t]?) : execOp a.eval o = execOp b.eval o :=
  execOp_congr o (fun cs c e => by have := sel_of hl ho; simp [isSelect, e] at this) (eval_agree h)

theorem wpOp_pure {Q : Exit → Act → World → Prop} {i : Nat} {o : Oper} (hl : looksOk ops = true) (hi : ops[i]? = some o) {a b : Act} {w : World} {v : Value} {K : Act → World → Prop}
    (hab : ∀ t ∈ o.looksAt ops, a.tmps[t]? = b.tmps[t]?) (hs : (Region.wanted o (yielded ops b.tmps) = true ∧ PureOK P o b v) ∨ (Region.wanted o (yielded ops b.tmps) = false ∧ v = undef))
    (h : K (a.put o.dst v) w) : wpOp P ops Q i K a w := by
  unfold wpOp
  simp only [hi]
  rw [wanted_agree hab]
  rcases hs with ⟨hw, hr⟩ | ⟨hw, rfl⟩
  · rw [if_pos hw]
    refine .inl ?_
    unfold Oper.wp
    rw [exec_agree hl hi hab, hr w]
    exact h
  · rw [hw]
    exact h
theorem frame_vsL {vs us : Nat → Value} {L : Nat → Bool} {a0 : Act} (h : ∀ i, L i = true → vs i = us i) : ∀ n, frameOf ops vs L a0 n = frameOf ops us L a0 n
  | 0 => rfl
  | n + 1 => by
    unfold frameOf
    rw [frame_vsL h n]
    split
    · rename_i hl
      rw [h n hl]
    · rfl
theorem filter_head {p q : Nat → Bool} {i n : Nat} (hi : i < n) (h1 : ∀ j, j < i → p j = false) (h2 : p i = true) (h3 : ∀ j, q j = (p j && j != i)) : (List.range n).filter p = i :: (List.range n).filter q := by
  have hr : List.range n = List.range i ++ i :: List.range' (i + 1) (n - i - 1) := by
    rw [List.range_eq_range', List.range_eq_range', ← List.range'_succ, show n - i - 1 + 1 = n - i by omega]
    have := List.range'_append (s := 0) (m := i) (n := n - i) (step := 1)
    simp only [Nat.one_mul, Nat.zero_add] at this
    rw [this, show i + (n - i) = n by omega]
  rw [hr, List.filter_append, List.filter_append, List.filter_cons, List.filter_cons, if_pos h2, if_neg (by rw [h3]; simp)]
  have e1 : (List.range i).filter p = [] := List.filter_eq_nil_iff.2 fun j hj => by rw [h1 j (by simpa using hj)]; simp
  have e2 : (List.range i).filter q = [] := List.filter_eq_nil_iff.2 fun j hj => by rw [h3, h1 j (by simpa using hj)]; simp
  rw [e1, e2]
  simp only [List.nil_append, List.cons.injEq, true_and]
  refine List.filter_congr fun j hj => ?_
  rw [h3]
  have : i + 1 ≤ j := (List.mem_range'_1.1 hj).1
  have : (j != i) = true := by simp; omega
  rw [this, Bool.and_true]

theorem phase2 {Q QN : Exit → Act → World → Prop} {a00 : Act} {vsQ : Nat → Value} (hok : tailOk ops mk = true) (hQN : ∀ a w, QN .normal a w → Q .normal a w) (hQN' : ∀ e a w, QN e a w → e = .normal)
    (hpure : ∀ i o, ops[i]? = some o → mk i = .p → (Region.wanted o (yielded ops (frameQ ops mk vsQ a00 i).tmps) = true ∧ PureOK P o (frameQ ops mk vsQ a00 i) (vsQ i)) ∨ (Region.wanted o (yielded ops (frameQ ops mk vsQ a00 i).tmps) = false ∧ vsQ i = undef)) :
    ∀ (fuel : Nat) (listed : Array Bool) (vs : Nat → Value) (a0 : Act) (w : World) (rest : List Nat), a0.tmps = a00.tmps → listed.size = ops.size → ((List.range ops.size).filter fun j => !listed.getD j true).length ≤ fuel →
      (∀ i j, listed.getD i false = true → waits ops i j = true → listed.getD j false = true) →
      (∀ i, i < ops.size → mk i ≠ .p → (mk i).isT = false → listed.getD i false = true) → (∀ i, (mk i).isQ = true → vs i = vsQ i) →
      rest = (List.range ops.size).filter (fun i => (mk i).isT && !listed.getD i false) →
      wpList P ops QN (rest.filterMap (ops[·]?)) (frameOf ops vs (fun j => !(mk j).isT || listed.getD j false) a0 ops.size) w →
      wpAny P .any ops Q fuel listed (frameOf ops vs (fun j => listed.getD j false) a0 ops.size) w := by
  obtain ⟨hd, hl⟩ := tailOk_fixed hok
  have fin : ∀ (listed : Array Bool) (vs : Nat → Value) (a0 : Act) (w : World) (rest : List Nat), listed.size = ops.size → rest = (List.range ops.size).filter (fun i => (mk i).isT && !listed.getD i false) →
      wpList P ops QN (rest.filterMap (ops[·]?)) (frameOf ops vs (fun j => !(mk j).isT || listed.getD j false) a0 ops.size) w → Region.ready .any ops listed = [] → Q .normal (frameOf ops vs (fun j => listed.getD j false) a0 ops.size) w := by
    intro listed vs a0 w rest hs hrest hw hr
    have hall := all_listed hl hs hr
    have : rest = [] := by
      rw [hrest, List.filter_eq_nil_iff]
      intro i hi
      simp [hall i (by simpa using hi)]
    subst this
    rw [frame_congr (M := fun j => !(mk j).isT || listed.getD j false) ops.size (fun j hj => by simp [hall j hj])]
    exact hQN _ _ hw
  intro fuel
  induction fuel with
  | zero =>
    intro listed vs a0 w rest _ hs hn _ _ _ hrest hw
    have hr : Region.ready .any ops listed = [] := by
      rw [List.eq_nil_iff_forall_not_mem]
      intro i hi
      obtain ⟨h0, o, ho, _⟩ := mem_ready.1 hi
      have : i ∈ (List.range ops.size).filter fun j => !listed.getD j true := List.mem_filter.2 ⟨by simpa using (Array.getElem?_eq_some_iff.1 ho).1, by simp [h0]⟩
      rw [List.eq_nil_of_length_eq_zero (Nat.le_zero.1 hn)] at this
      cases this
    exact ⟨hr, fin listed vs a0 w rest hs hrest hw hr⟩
  | succ fuel ih =>
    intro listed vs a0 w rest h00 hs hn hcld hqa hvs hrest hw
    refine ⟨fin listed vs a0 w rest hs hrest hw, fun i hi => ?_⟩
    obtain ⟨h0, o, ho, hall⟩ := mem_ready.1 hi
    have hi' : i < ops.size := (Array.getElem?_eq_some_iff.1 ho).1
    have hsi : i < listed.size := by omega
    have hLi : listed.getD i false = false := by simpa [Array.getD_eq_getD_getElem?, hsi] using h0
    have hwl : ∀ j, waits ops i j = true → listed.getD j false = true := fun j hj => by
      obtain ⟨e, he, hb, rfl⟩ := (waits_spec ho).1 hj
      exact hall e he hb
    have hlw : ∀ j, waits ops j i = true → listed.getD j false = false := fun j hj => by
      cases hb : listed.getD j false with
      | false => rfl
      | true => rw [hcld j i hb hj] at hLi; cases hLi
    have hset := set_getD hsi
    cases hT : (mk i).isT with
    | false =>
      have hp : mk i = .p := by
        by_cases e : mk i = .p
        · exact e
        · rw [hqa i hi' e hT] at hLi; cases hLi
      have hput : (ops[i]?).bind (·.dst) = o.dst := by rw [ho]; rfl
      have hwQ : vs i = vsQ i := hvs i (by rw [hp]; rfl)
      refine wpOp_pure (b := frameQ ops mk vsQ a00 i) (v := vsQ i) hl ho ?_ (hpure i o ho hp) ?_
      · intro t ht
        unfold frameQ
        refine frames_agree2 hd hl h00 ho (fun j hj hw => ⟨hwl j hw, ?_, ?_⟩) (fun j hj hw => ⟨hlw j hw, by simp; omega⟩) ht
        · simp [hj, waits_quiet hok hT hw]
        · exact hvs j (waits_quiet hok hT hw)
      · have hmore := frame_more hd (vs := vs) (L := fun j => listed.getD j false) (a0 := a0) hLi ops.size hi'
        rw [hput, hwQ] at hmore
        rw [← hmore, frame_congr (M := fun j => (listed.setIfInBounds i true).getD j false) ops.size (fun j _ => (hset j).symm)]
        refine ih _ vs a0 w rest h00 (by simpa using hs) (set_count hsi hi' h0 hn) (set_closed hsi ho hall hcld) (fun j hj h1 h2 => by rw [hset, hqa j hj h1 h2]; simp) hvs ?_ ?_
        · rw [hrest]
          refine List.filter_congr fun j _ => ?_
          rw [hset]
          by_cases e : j = i
          · subst e; simp [hT]
          · have : (j == i) = false := by simpa using e
            rw [this, Bool.false_or]
        · rw [frame_congr (M := fun j => !(mk j).isT || listed.getD j false) ops.size (fun j _ => by
            rw [hset]
            by_cases e : j = i
            · subst e; simp [hT]
            · have : (j == i) = false := by simpa using e
              rw [this, Bool.false_or])]
          exact hw
    | true =>
      have hput : (ops[i]?).bind (·.dst) = o.dst := by rw [ho]; rfl
      have hnQ : ∀ j, (mk j).isQ = true → j ≠ i := fun j hj e => by subst e; rcases (mk j).trio with h | h | h <;> simp_all
      have hhead : rest = i :: (List.range ops.size).filter (fun j => (mk j).isT && !(listed.setIfInBounds i true).getD j false) := by
        rw [hrest]
        refine filter_head hi' (fun j hj => ?_) (by simp [hT, hLi]) (fun j => ?_)
        · cases hTj : (mk j).isT with
          | false => simp
          | true =>
            have hdep := tailOk_at hok hi' (Nat.lt_trans hj hi')
            rw [hT] at hdep
            have hmt : mk j = .t := by cases hm : mk j <;> simp_all [Mark.isT]
            rw [hmt] at hdep
            simp only [if_true, hj, decide_true, Bool.not_true, Bool.false_or] at hdep
            rw [deps_closed hcld 3 i j hwl hdep]; simp
        · rw [hset]
          by_cases e : j = i
          · subst e; simp
          · have : (j == i) = false := by simpa using e
            have h' : (j != i) = true := by simpa using e
            rw [this, h', Bool.false_or, Bool.and_true]
      rw [hhead, List.filterMap_cons, ho] at hw
      have hLf : ∀ j, (!(mk j).isT || (listed.setIfInBounds i true).getD j false) = (j == i || (!(mk j).isT || listed.getD j false)) := fun j => by
        rw [hset]
        by_cases e : j = i
        · subst e; simp
        · have : (j == i) = false := by simpa using e
          rw [this]; simp
      have hgo : ∀ (v : Value) (w' : World) (ds : List Deferred), wpList P ops QN ((List.filter (fun j => (mk j).isT && !(listed.setIfInBounds i true).getD j false) (List.range ops.size)).filterMap (ops[·]?)) ((frameOf ops vs (fun j => !(mk j).isT || listed.getD j false) { a0 with defers := ds } ops.size).put o.dst v) w' →
          wpAny P .any ops Q fuel (listed.setIfInBounds i true) ((frameOf ops vs (fun j => listed.getD j false) { a0 with defers := ds } ops.size).put o.dst v) w' := by
        intro v w' ds hw'
        obtain ⟨us, hus⟩ : ∃ us : Nat → Value, us = fun j => if j = i then v else vs j := ⟨_, rfl⟩
        have hui : us i = v := by rw [hus]; simp
        have huo : ∀ j, j ≠ i → us j = vs j := fun j hj => by rw [hus]; simp [hj]
        have m1 := frame_more hd (vs := us) (L := fun j => listed.getD j false) (a0 := { a0 with defers := ds }) hLi ops.size hi'
        have m2 := frame_more hd (vs := us) (L := fun j => !(mk j).isT || listed.getD j false) (a0 := { a0 with defers := ds }) (i := i) (by rw [hT, hLi]; rfl) ops.size hi'
        rw [hput, hui, frame_vsL (us := vs) (L := fun j => listed.getD j false) (fun j hj => huo j (fun e => by have hj : listed.getD j false = true := hj; rw [e, hLi] at hj; cases hj))] at m1
        rw [hput, hui, frame_vsL (us := vs) (L := fun j => !(mk j).isT || listed.getD j false) (fun j hj => huo j (fun e => by have hj : (!(mk j).isT || listed.getD j false) = true := hj; rw [e, hT, hLi] at hj; cases hj))] at m2
        rw [← m1, frame_congr (M := fun j => (listed.setIfInBounds i true).getD j false) ops.size (fun j _ => (hset j).symm)]
        rw [← m2, frame_congr (M := fun j => !(mk j).isT || (listed.setIfInBounds i true).getD j false) ops.size (fun j _ => (hLf j).symm)] at hw'
        exact ih _ us { a0 with defers := ds } w' _ h00 (by simpa using hs) (set_count hsi hi' h0 hn) (set_closed hsi ho hall hcld) (fun j hj h1 h2 => by rw [hset, hqa j hj h1 h2]; simp)
          (fun j hj => by rw [huo j (hnQ j hj)]; exact hvs j hj) rfl hw'
      have hab : ∀ t ∈ o.looksAt ops, (frameOf ops vs (fun j => listed.getD j false) a0 ops.size).tmps[t]? = (frameOf ops vs (fun j => !(mk j).isT || listed.getD j false) a0 ops.size).tmps[t]? := fun t ht =>
        frames_agree2 hd hl rfl ho (fun j hj hw => ⟨hwl j hw, by simp [hwl j hw], rfl⟩) (fun j hj hw => ⟨hlw j hw, by
          cases hTj : (mk j).isT with
          | true => simp [hlw j hw]
          | false =>
            have := waits_quiet hok hTj hw
            exact absurd rfl (hnQ i this)⟩) ht
      have e0 : ∀ (L : Nat → Bool) (ds : List Deferred), ({ frameOf ops vs L a0 ops.size with defers := ds } : Act) = frameOf ops vs L { a0 with defers := ds } ops.size := fun L ds => (frame_defers ops.size).symm
      have e1 : ∀ (L : Nat → Bool), (frameOf ops vs L a0 ops.size).defers = a0.defers := fun L => (frame_size ops.size).2
      unfold wpOp
      simp only [ho]
      rw [wanted_agree hab]
      unfold wpList at hw
      split at hw
      · rename_i hwt
        rw [if_pos hwt]
        rcases hw with hw | ⟨_, a', w'', hw⟩
        · refine .inl (wp_transfer (exec_agree hl ho hab) hQN' (fun v w' h => hgo v w' a0.defers h) (fun d w' h => ?_) hw)
          rw [e0, e1] at h ⊢
          exact hgo undef w' _ h
        · cases hQN' _ _ _ hw
      · rename_i hwt
        rw [if_neg hwt]
        exact hgo undef w a0.defers hw
end
end Go.Proofs.YtlgidjanmaijaaaGreatDoor

/- A region of quiet operations, of new blocks, and of a tail: the theorem. For any program. -/
namespace Go.Proofs.YtlgidjanmaijaaaGreatDoor
set_option linter.all false
open Go.RowKit
section
variable {P : Program} {ops : Array Oper}

def mkOf (ms : List Mark) (i : Nat) : Mark := (ms[i]?).getD .q
def OKat (P : Program) (ops : Array Oper) (F : World → Prop) (m : Mark) (o : Oper) (a : Act) (v : Value) : Prop := match m with
  | .q => (Region.wanted o (yielded ops a.tmps) = true ∧ StepOK P F o a v) ∨ (Region.wanted o (yielded ops a.tmps) = false ∧ v = undef)
  | .p => (Region.wanted o (yielded ops a.tmps) = true ∧ PureOK P o a v) ∨ (Region.wanted o (yielded ops a.tmps) = false ∧ v = undef)
  | .a cs t => ∀ w : World, (execOp a.eval o).run P w = .ok (.value (.pointer (some ⟨w.heap.size, 0, none⟩))) (w.alloc (.cells cs.toArray t))
  | .t => True
/-- the walk in the order of the text, over all but new blocks and the tail -/
def Walk (P : Program) (ops : Array Oper) (F : World → Prop) (K : Act → Prop) : List Mark → List Oper → Act → Prop
  | _, [], a => K a
  | [], _ :: _, _ => False
  | m :: ms, o :: rest, a => ∃ v, OKat P ops F m o a v ∧ Walk P ops F K ms rest (if m.isQ then a.put o.dst v else a)

variable {F : World → Prop} {K : Act → Prop} {o : Oper} {rest : List Oper} {a : Act} {ms : List Mark} {v : Value}
theorem Walk.done (h : K a) : Walk P ops F K ms [] a := by cases ms <;> exact h
theorem Walk.here {l : List Oper} (h : Walk P ops F K ms l a) : Walk P ops F K ms l a := h
theorem Walk.skipQ (hw : Region.wanted o (yielded ops a.tmps) = false) (h : Walk P ops F K ms rest (a.put o.dst undef)) : Walk P ops F K (.q :: ms) (o :: rest) a := ⟨undef, .inr ⟨hw, rfl⟩, h⟩
theorem Walk.skipP (hw : Region.wanted o (yielded ops a.tmps) = false) (h : Walk P ops F K ms rest (a.put o.dst undef)) : Walk P ops F K (.p :: ms) (o :: rest) a := ⟨undef, .inr ⟨hw, rfl⟩, h⟩
theorem Walk.val (hw : Region.wanted o (yielded ops a.tmps) = true) (hr : ∀ w, F w → (execOp a.eval o).run P w = .ok (.value v) w) (h : Walk P ops F K ms rest (a.put o.dst v)) : Walk P ops F K (.q :: ms) (o :: rest) a := ⟨v, .inl ⟨hw, .inl hr⟩, h⟩
theorem Walk.pure (hw : Region.wanted o (yielded ops a.tmps) = true) (hr : ∀ w, (execOp a.eval o).run P w = .ok (.value v) w) (h : Walk P ops F K ms rest (a.put o.dst v)) : Walk P ops F K (.p :: ms) (o :: rest) a := ⟨v, .inl ⟨hw, hr⟩, h⟩
theorem Walk.call {f : FuncId} {args : Array Value} (hw : Region.wanted o (yielded ops a.tmps) = true) (hr : ∀ w, F w → (execOp a.eval o).run P w = .ok (.enter f args) w)
    (hc : ∀ w, F w → Calls P f args w fun e w' => e = .returned v ∧ Ext w w') (h : Walk P ops F K ms rest (a.put o.dst v)) : Walk P ops F K (.q :: ms) (o :: rest) a := ⟨v, .inl ⟨hw, .inr ⟨f, args, hr, hc⟩⟩, h⟩
theorem Walk.blk {cs : List Value} {t : TypeId} (hr : ∀ w : World, (execOp a.eval o).run P w = .ok (.value (.pointer (some ⟨w.heap.size, 0, none⟩))) (w.alloc (.cells cs.toArray t))) (h : Walk P ops F K ms rest a) : Walk P ops F K (.a cs t :: ms) (o :: rest) a := ⟨undef, hr, h⟩
theorem Walk.tail (h : Walk P ops F K ms rest a) : Walk P ops F K (.t :: ms) (o :: rest) a := ⟨undef, trivial, h⟩
theorem Walk.guardT {j : Nat} {b : Bool} {d : Tmp} (_ : o.guard = some (j, true)) (_ : (ops[j]?).bind (·.dst) = some d) (_ : a.tmps[d]? = some (.bool b)) (h1 : b = true → Walk P ops F K ms (o :: rest) a) (h2 : b = false → Walk P ops F K ms (o :: rest) a) : Walk P ops F K ms (o :: rest) a := by
  cases hb : b
  · exact h2 hb
  · exact h1 hb
theorem Walk.guardF {j : Nat} {b : Bool} {d : Tmp} (_ : o.guard = some (j, false)) (_ : (ops[j]?).bind (·.dst) = some d) (_ : a.tmps[d]? = some (.bool b)) (h1 : b = false → Walk P ops F K ms (o :: rest) a) (h2 : b = true → Walk P ops F K ms (o :: rest) a) : Walk P ops F K ms (o :: rest) a := by
  cases hb : b
  · exact h1 hb
  · exact h2 hb

theorem frameQ_step {mk : Nat → Mark} (hd : dstApart ops = true) {us : Nat → Value} {a0 : Act} {n : Nat} {o : Oper} (ho : ops[n]? = some o) (v : Value) (hQ : (mk n).isQ = true) :
    frameQ ops mk (fun j => if j = n then v else us j) a0 (n + 1) = (frameQ ops mk us a0 n).put o.dst v := by
  have hn : n < ops.size := (Array.getElem?_eq_some_iff.1 ho).1
  have hm := frame_more hd (vs := fun j => if j = n then v else us j) (L := fun j => decide (j < n) && (mk j).isQ) (a0 := a0) (i := n) (by simp) ops.size hn
  rw [frame_vsL (vs := fun j => if j = n then v else us j) (us := us) (L := fun j => decide (j < n) && (mk j).isQ) (fun j hj => by
    simp only [Bool.and_eq_true, decide_eq_true_eq] at hj
    exact if_neg (by omega))] at hm
  unfold frameQ
  rw [show (ops[n]?).bind (·.dst) = o.dst by rw [ho]; rfl, if_pos rfl] at hm
  rw [← hm]
  refine frame_congr _ fun j _ => ?_
  by_cases e : j = n
  · subst e; simp [hQ]
  · have h1 : (j == n) = false := by simpa using e
    have h2 : decide (j < n + 1) = decide (j < n) := by simp; omega
    rw [h1, h2, Bool.false_or]
theorem frameQ_stay {mk : Nat → Mark} {us : Nat → Value} {a0 : Act} {n : Nat} (hQ : (mk n).isQ = false) : frameQ ops mk us a0 (n + 1) = frameQ ops mk us a0 n := by
  unfold frameQ
  refine frame_congr _ fun j _ => ?_
  by_cases e : j = n
  · subst e; simp [hQ]
  · have h2 : decide (j < n + 1) = decide (j < n) := by simp; omega
    rw [h2]
theorem frameQ_vs {mk : Nat → Mark} {us vs : Nat → Value} {a0 : Act} {n : Nat} (h : ∀ j, j < n → vs j = us j) : frameQ ops mk vs a0 n = frameQ ops mk us a0 n :=
  frame_vsL (fun j hj => h j (by simp only [Bool.and_eq_true, decide_eq_true_eq] at hj; exact hj.1)) _

theorem Walk.values {mk : Nat → Mark} (hd : dstApart ops = true) {a0 : Act} : ∀ (rest : List Oper) (ms : List Mark) (n : Nat) (us : Nat → Value), (∀ j, rest[j]? = ops[n + j]?) → n + rest.length = ops.size → (∀ j m, ms[j]? = some m → m = mk (n + j)) → Walk P ops F K ms rest (frameQ ops mk us a0 n) →
    ∃ vs : Nat → Value, (∀ j, j < n → vs j = us j) ∧ K (frameQ ops mk vs a0 ops.size) ∧ ∀ i o, n ≤ i → ops[i]? = some o → OKat P ops F (mk i) o (frameQ ops mk vs a0 i) (vs i)
  | [], ms, n, us, _, hn, _, h => ⟨us, fun _ _ => rfl, by rw [← hn]; cases ms <;> exact h, fun i o hi ho => by
      have := (Array.getElem?_eq_some_iff.1 ho).1
      simp at hn; omega⟩
  | _ :: _, [], _, _, _, _, _, h => h.elim
  | o :: rest, m :: ms, n, us, hr, hn, hms, h => by
    have ho : ops[n]? = some o := by simpa using (hr 0).symm
    have hr' : ∀ j, rest[j]? = ops[n + 1 + j]? := fun j => by
      have := hr (j + 1)
      simpa [Nat.add_assoc, Nat.add_comm 1 j] using this
    have hm : m = mk n := hms 0 m (by simp)
    have hms' : ∀ j m', ms[j]? = some m' → m' = mk (n + 1 + j) := fun j m' hj => by
      have := hms (j + 1) m' (by simpa using hj)
      rw [this]; congr 1; omega
    obtain ⟨v, hv, h⟩ := h
    have hf : frameQ ops mk (fun j => if j = n then v else us j) a0 (n + 1) = (if m.isQ then (frameQ ops mk us a0 n).put o.dst v else frameQ ops mk us a0 n) := by
      cases hQ : m.isQ with
      | true => rw [if_pos rfl]; exact frameQ_step hd ho v (by rw [← hm]; exact hQ)
      | false =>
        rw [if_neg (by simp), frameQ_stay (by rw [← hm]; exact hQ)]
        exact frameQ_vs fun j hj => if_neg (by omega)
    obtain ⟨vs, h1, h2, h3⟩ := Walk.values hd rest ms (n + 1) (fun j => if j = n then v else us j) hr' (by simp at hn; omega) hms' (by rw [hf]; exact h)
    refine ⟨vs, fun j hj => by rw [h1 j (by omega), if_neg (by omega)], h2, fun i o' hi ho' => ?_⟩
    by_cases e : i = n
    · subst e
      obtain rfl : o = o' := Option.some.inj (ho.symm.trans ho')
      rw [frameQ_vs (us := us) fun j hj => by rw [h1 j (by omega), if_neg (by omega)], h1 i (by omega), if_pos rfl, ← hm]
      exact hv
    · exact h3 i o' (by omega) ho'

/-- the new blocks that have been made -/
structure Made (mk : Nat → Mark) (L : Nat → Bool) (vs : Nat → Value) (base : Nat) (w : World) : Prop where
  at_ : ∀ i cs t, mk i = .a cs t → L i = true → ∃ b, vs i = .pointer (some ⟨b, 0, none⟩) ∧ base ≤ b ∧ w.heap[b]? = some (.cells cs.toArray t (0, 0))
  ne : ∀ i j, (mk i).isA = true → (mk j).isA = true → L i = true → L j = true → i ≠ j → vs i ≠ vs j
theorem Made.ext {mk : Nat → Mark} {L : Nat → Bool} {vs : Nat → Value} {base : Nat} {w w' : World} (h : Made mk L vs base w) (hx : Ext w w') : Made mk L vs base w' :=
  ⟨fun i cs t hi hl => by obtain ⟨b, h1, h2, h3⟩ := h.at_ i cs t hi hl; exact ⟨b, h1, h2, heap_keeps hx h3⟩, h.ne⟩
theorem Made.congr {mk : Nat → Mark} {L M : Nat → Bool} {vs us : Nat → Value} {base : Nat} {w : World} (h : Made mk L vs base w) (hL : ∀ i, (mk i).isA = true → M i = true → L i = true ∧ us i = vs i) : Made mk M us base w :=
  ⟨fun i cs t hi hl => by
    obtain ⟨h1, h2⟩ := hL i (by rw [hi]; rfl) hl
    rw [h2]; exact h.at_ i cs t hi h1, fun i j hi hj li lj hij => by
    obtain ⟨h1, h2⟩ := hL i hi li
    obtain ⟨h3, h4⟩ := hL j hj lj
    rw [h2, h4]; exact h.ne i j hi hj h1 h3 hij⟩

theorem phase1 {mk : Nat → Mark} {Q : Exit → Act → World → Prop} {a0 : Act} {vsQ : Nat → Value} {ws : World} (hok : tailOk ops mk = true) (hcl : ∀ w w', F w → Ext w w' → F w')
    (hst : ∀ i o, ops[i]? = some o → OKat P ops F (mk i) o (frameQ ops mk vsQ a0 i) (vsQ i))
    (hK : ∀ (vs : Nat → Value) (w : World), (∀ i, (mk i).isQ = true → vs i = vsQ i) → F w → Ext ws w → Made mk (fun i => decide (i < ops.size)) vs ws.heap.size w → ∀ QN : Exit → Act → World → Prop, (∀ a w, Q .normal a w → QN .normal a w) →
      wpList P ops QN (((List.range ops.size).filter fun i => (mk i).isT).filterMap (ops[·]?)) (frameOf ops vs (fun j => !(mk j).isT) a0 ops.size) w) :
    ∀ (fuel : Nat) (listed : Array Bool) (vs : Nat → Value) (w : World), listed.size = ops.size → ((List.range ops.size).filter fun j => !listed.getD j true).length ≤ fuel →
      (∀ i j, listed.getD i false = true → waits ops i j = true → listed.getD j false = true) → (∀ i, (mk i).isT = true → listed.getD i false = false) → (∀ i, (mk i).isQ = true → vs i = vsQ i) →
      F w → Ext ws w → Made mk (fun i => listed.getD i false) vs ws.heap.size w → wpAny P .any ops Q fuel listed (frameOf ops vs (fun j => listed.getD j false) a0 ops.size) w := by
  obtain ⟨hd, hl⟩ := tailOk_fixed hok
  have hpure : ∀ i o, ops[i]? = some o → mk i = .p → (Region.wanted o (yielded ops (frameQ ops mk vsQ a0 i).tmps) = true ∧ PureOK P o (frameQ ops mk vsQ a0 i) (vsQ i)) ∨ (Region.wanted o (yielded ops (frameQ ops mk vsQ a0 i).tmps) = false ∧ vsQ i = undef) := fun i o ho hp => by
    have := hst i o ho
    rw [hp] at this
    exact this
  obtain ⟨QN, hQN0⟩ : ∃ QN : Exit → Act → World → Prop, QN = fun e a w => e = .normal ∧ Q .normal a w := ⟨_, rfl⟩
  have q1 : ∀ a w, QN .normal a w → Q .normal a w := fun a w h => by rw [hQN0] at h; exact h.2
  have q2 : ∀ e a w, QN e a w → e = .normal := fun e a w h => by rw [hQN0] at h; exact h.1
  have q3 : ∀ a w, Q .normal a w → QN .normal a w := fun a w h => by rw [hQN0]; exact ⟨rfl, h⟩
  -- all is there that the tail waits for
  have turn : ∀ (fuel : Nat) (listed : Array Bool) (vs : Nat → Value) (w : World), listed.size = ops.size → ((List.range ops.size).filter fun j => !listed.getD j true).length ≤ fuel →
      (∀ i j, listed.getD i false = true → waits ops i j = true → listed.getD j false = true) → (∀ i, (mk i).isT = true → listed.getD i false = false) → (∀ i, (mk i).isQ = true → vs i = vsQ i) →
      F w → Ext ws w → Made mk (fun i => listed.getD i false) vs ws.heap.size w → (∀ i, i < ops.size → mk i ≠ .p → (mk i).isT = false → listed.getD i false = true) → wpAny P .any ops Q fuel listed (frameOf ops vs (fun j => listed.getD j false) a0 ops.size) w := by
    intro fuel listed vs w hs hn hcld hT hvs hF hx hM hqa
    have hk := hK vs w hvs hF hx (hM.congr fun i hA hi => ⟨by
      simp only [decide_eq_true_eq] at hi
      exact hqa i hi (fun e => by rw [e] at hA; cases hA) (by rcases (mk i).trio with h | h | h <;> simp_all), rfl⟩) QN q3
    refine phase2 hok q1 q2 hpure fuel listed vs a0 w ((List.range ops.size).filter fun i => (mk i).isT) rfl hs hn hcld hqa hvs (List.filter_congr (fun i _ => ?_)) ?_
    · cases hTi : (mk i).isT with
      | false => rfl
      | true => rw [hT i hTi]; rfl
    · rw [frame_congr (M := fun j => !(mk j).isT) ops.size (fun j _ => by
        cases hTj : (mk j).isT with
        | false => rfl
        | true => rw [hT j hTj]; rfl)]
      exact hk
  intro fuel
  induction fuel with
  | zero =>
    intro listed vs w hs hn hcld hT hvs hF hx hM
    refine turn 0 listed vs w hs hn hcld hT hvs hF hx hM fun i hi _ _ => ?_
    cases hb : listed.getD i false with
    | true => rfl
    | false =>
      have hsi : i < listed.size := by omega
      have : i ∈ (List.range ops.size).filter fun j => !listed.getD j true := List.mem_filter.2 ⟨by simpa using hi, by
        have : listed.getD i true = false := by simpa [Array.getD_eq_getD_getElem?, hsi] using hb
        simp [this]⟩
      rw [List.eq_nil_of_length_eq_zero (Nat.le_zero.1 hn)] at this
      cases this
  | succ fuel ih =>
    intro listed vs w hs hn hcld hT hvs hF hx hM
    refine ⟨fun hr => ?_, fun i hi => ?_⟩
    · exact (turn (fuel + 1) listed vs w hs hn hcld hT hvs hF hx hM fun i hi _ _ => all_listed hl hs hr i hi).1 hr
    obtain ⟨h0, o, ho, hall⟩ := mem_ready.1 hi
    have hi' : i < ops.size := (Array.getElem?_eq_some_iff.1 ho).1
    have hsi : i < listed.size := by omega
    have hLi : listed.getD i false = false := by simpa [Array.getD_eq_getD_getElem?, hsi] using h0
    have hwl : ∀ j, waits ops i j = true → listed.getD j false = true := fun j hj => by
      obtain ⟨e, he, hb, rfl⟩ := (waits_spec ho).1 hj
      exact hall e he hb
    have hlw : ∀ j, waits ops j i = true → listed.getD j false = false := fun j hj => by
      cases hb : listed.getD j false with
      | false => rfl
      | true => rw [hcld j i hb hj] at hLi; cases hLi
    have hset := set_getD hsi
    have hput : (ops[i]?).bind (·.dst) = o.dst := by rw [ho]; rfl
    have hsti := hst i o ho
    have hstep : ∀ w', (mk i).isT = false → (mk i).isA = false → Ext w w' → wpAny P .any ops Q fuel (listed.setIfInBounds i true) ((frameOf ops vs (fun j => listed.getD j false) a0 ops.size).put o.dst (vsQ i)) w' := by
      intro w' hTi hAi hx'
      have hQi : (mk i).isQ = true := by rcases (mk i).trio with h | h | h <;> simp_all
      have hmore := frame_more hd (vs := vs) (L := fun j => listed.getD j false) (a0 := a0) hLi ops.size hi'
      rw [hput, hvs i hQi] at hmore
      rw [← hmore, frame_congr (M := fun j => (listed.setIfInBounds i true).getD j false) ops.size (fun j _ => (hset j).symm)]
      refine ih _ vs w' (by simpa using hs) (set_count hsi hi' h0 hn) (set_closed hsi ho hall hcld) (fun j hj => ?_) hvs (hcl w w' hF hx') (hx.trans hx') ((hM.ext hx').congr fun j hA hj => ⟨?_, rfl⟩)
      · rw [hset, hT j hj, Bool.or_false]
        exact beq_false_of_ne fun e => by subst e; rw [hTi] at hj; cases hj
      · have : j ≠ i := fun e => by subst e; rw [hAi] at hA; cases hA
        have hb : (j == i) = false := by simpa using this
        have hj : (listed.setIfInBounds i true).getD j false = true := hj
        rw [hset, hb, Bool.false_or] at hj
        exact hj
    have hagree : ∀ t ∈ o.looksAt ops, (mk i).isT = false → (frameOf ops vs (fun j => listed.getD j false) a0 ops.size).tmps[t]? = (frameQ ops mk vsQ a0 i).tmps[t]? := fun t ht hTi => by
      unfold frameQ
      exact frames_agree2 hd hl rfl ho (fun j hj hw => ⟨hwl j hw, by simp [hj, waits_quiet hok hTi hw], hvs j (waits_quiet hok hTi hw)⟩) (fun j hj hw => ⟨hlw j hw, by simp; omega⟩) ht
    cases hm : mk i with
    | q =>
      have hTi : (mk i).isT = false := by rw [hm]; rfl
      have hAi : (mk i).isA = false := by rw [hm]; rfl
      rw [hm] at hsti
      exact wpOp_fixed ho (sel_of hl ho) (fun t ht => hagree t ht hTi) hF hsti fun w' hx' => hstep w' hTi hAi hx'
    | p =>
      have hTi : (mk i).isT = false := by rw [hm]; rfl
      have hAi : (mk i).isA = false := by rw [hm]; rfl
      rw [hm] at hsti
      exact wpOp_pure hl ho (fun t ht => hagree t ht hTi) hsti (hstep w hTi hAi (Ext.refl w))
    | a cs t =>
      have hTi : (mk i).isT = false := by rw [hm]; rfl
      have hAi : (mk i).isA = true := by rw [hm]; rfl
      have hQi : (mk i).isQ = false := by rw [hm]; rfl
      rw [hm] at hsti
      have hg := tailOk_guard hok ho hAi
      unfold wpOp
      simp only [ho]
      rw [if_pos (by simp [Region.wanted, hg])]
      refine .inl ?_
      unfold Oper.wp
      rw [exec_agree hl ho (fun t ht => hagree t ht hTi), hsti w]
      show wpAny P .any ops Q fuel (listed.setIfInBounds i true) ((frameOf ops vs (fun j => listed.getD j false) a0 ops.size).put o.dst (.pointer (some ⟨w.heap.size, 0, none⟩))) (w.alloc (.cells cs.toArray t))
      obtain ⟨us, hus⟩ : ∃ us : Nat → Value, us = fun j => if j = i then .pointer (some ⟨w.heap.size, 0, none⟩) else vs j := ⟨_, rfl⟩
      have hui : us i = .pointer (some ⟨w.heap.size, 0, none⟩) := by rw [hus]; simp
      have huo : ∀ j, j ≠ i → us j = vs j := fun j hj => by rw [hus]; simp [hj]
      have m1 := frame_more hd (vs := us) (L := fun j => listed.getD j false) (a0 := a0) hLi ops.size hi'
      rw [hput, hui, frame_vsL (us := vs) (L := fun j => listed.getD j false) (fun j hj => huo j (fun e => by have hj : listed.getD j false = true := hj; rw [e, hLi] at hj; cases hj))] at m1
      rw [← m1, frame_congr (M := fun j => (listed.setIfInBounds i true).getD j false) ops.size (fun j _ => (hset j).symm)]
      have hxa := (Ext.refl w).alloc (.cells cs.toArray t)
      have hMa := hM.ext hxa
      have hpast : ∀ j, (listed.setIfInBounds i true).getD j false = true → j ≠ i → listed.getD j false = true := fun j hj hne => by
        have hb : (j == i) = false := by simpa using hne
        rw [hset, hb, Bool.false_or] at hj
        exact hj
      have hold : ∀ j, (mk j).isA = true → listed.getD j false = true → us j ≠ .pointer (some ⟨w.heap.size, 0, none⟩) := fun j hA hj e => by
        have hne : j ≠ i := fun e => by subst e; rw [hLi] at hj; cases hj
        cases hmj : mk j with
        | a cs' t' =>
          obtain ⟨b, h1, h2, h3⟩ := hM.at_ j cs' t' hmj hj
          rw [huo j hne, h1] at e
          have : b < w.heap.size := heap_lt h3
          simp at e
          try omega
        | q => rw [hmj] at hA; cases hA
        | p => rw [hmj] at hA; cases hA
        | t => rw [hmj] at hA; cases hA
      refine ih _ us _ (by simpa using hs) (set_count hsi hi' h0 hn) (set_closed hsi ho hall hcld) (fun j hj => ?_) (fun j hj => ?_) (hcl w _ hF hxa) (hx.trans hxa) ⟨fun j cs' t' hj hlj => ?_, fun j k hj hk lj lk hjk => ?_⟩
      · rw [hset, hT j hj, Bool.or_false]
        exact beq_false_of_ne fun e => by subst e; rw [hTi] at hj; cases hj
      · rw [huo j (fun e => by subst e; rw [hQi] at hj; cases hj)]
        exact hvs j hj
      · by_cases e : j = i
        · subst e
          rw [hm] at hj
          injection hj with e1 e2
          subst e1 e2
          exact ⟨w.heap.size, hui, hx.size, heap_alloc_new w _⟩
        · rw [huo j e]
          exact hMa.at_ j cs' t' hj (hpast j hlj e)
      · by_cases e : j = i
        · subst e
          rw [hui]
          exact fun h => hold k hk (hpast k lk (fun e => hjk e.symm)) h.symm
        · by_cases e' : k = i
          · subst e'
            rw [hui]
            exact hold j hj (hpast j lj e)
          · rw [huo j e, huo k e']
            exact hMa.ne j k hj hk (hpast j lj e) (hpast k lk e') hjk
    | t =>
      have hTi : (mk i).isT = true := by rw [hm]; rfl
      refine (turn (fuel + 1) listed vs w hs hn hcld hT hvs hF hx hM fun j hj hnp hTj => ?_).2 i hi
      have hdep := tailOk_at hok hi' hj
      rw [hTi] at hdep
      refine deps_closed hcld 3 i j hwl ?_
      cases hmj : mk j with
      | q => rw [hmj] at hdep; simpa using hdep
      | a cs' t' => rw [hmj] at hdep; simpa using hdep
      | p => exact absurd hmj hnp
      | t => rw [hmj] at hTj; cases hTj

def tailsOf : List Oper → List Mark → List Oper
  | o :: l, .t :: ms => o :: tailsOf l ms
  | _ :: l, _ :: ms => tailsOf l ms
  | _, _ => []
def blksOf (bs : Nat → Nat) : List Mark → Nat → List Blk
  | [], _ => []
  | .a cs t :: ms, n => (bs n, cs, t) :: blksOf bs ms (n + 1)
  | _ :: ms, n => blksOf bs ms (n + 1)
def putB (bs : Nat → Nat) : List Oper → List Mark → Nat → Act → Act
  | o :: l, .a _ _ :: ms, n, a => putB bs l ms (n + 1) (a.put o.dst (.pointer (some ⟨bs n, 0, none⟩)))
  | _ :: l, _ :: ms, n, a => putB bs l ms (n + 1) a
  | _, _, _, a => a

theorem tails_eq {mk : Nat → Mark} : ∀ (rest : List Oper) (ms : List Mark) (n : Nat), rest.length = ms.length → (∀ j, rest[j]? = ops[n + j]?) → (∀ j m, ms[j]? = some m → m = mk (n + j)) →
    ((List.range' n rest.length).filter fun i => (mk i).isT).filterMap (ops[·]?) = tailsOf rest ms
  | [], _, _, _, _, _ => by simp [tailsOf]
  | _ :: _, [], _, h, _, _ => by simp at h
  | o :: rest, m :: ms, n, hlen, hr, hms => by
    have ho : ops[n]? = some o := by simpa using (hr 0).symm
    have hm : m = mk n := hms 0 m (by simp)
    have ih := tails_eq (mk := mk) rest ms (n + 1) (by simpa using hlen) (fun j => by
      have := hr (j + 1)
      simpa [Nat.add_assoc, Nat.add_comm 1 j] using this) (fun j m' hj => by
      have := hms (j + 1) m' (by simpa using hj)
      rw [this]; congr 1; omega)
    rw [List.length_cons, List.range'_succ, List.filter_cons]
    cases hmm : m with
    | t =>
      rw [if_pos (by rw [← hm, hmm]; rfl), List.filterMap_cons, ho]
      simp only [tailsOf]
      rw [ih]
    | q => rw [if_neg (by rw [← hm, hmm]; simp [Mark.isT]), ih]; rfl
    | p => rw [if_neg (by rw [← hm, hmm]; simp [Mark.isT]), ih]; rfl
    | a cs t => rw [if_neg (by rw [← hm, hmm]; simp [Mark.isT]), ih]; rfl
theorem mem_blks {bs : Nat → Nat} {x : Blk} : ∀ (ms : List Mark) (n : Nat), x ∈ blksOf bs ms n → ∃ j cs t, ms[j]? = some (.a cs t) ∧ x = (bs (n + j), cs, t)
  | [], _, h => by cases h
  | m :: ms, n, h => by
    have up : (∃ j cs t, ms[j]? = some (.a cs t) ∧ x = (bs (n + 1 + j), cs, t)) → ∃ j cs t, (m :: ms)[j]? = some (.a cs t) ∧ x = (bs (n + j), cs, t) := fun ⟨j, cs, t, h1, h2⟩ => ⟨j + 1, cs, t, by simpa using h1, by rw [h2, show n + 1 + j = n + (j + 1) by omega]⟩
    cases m with
    | a cs t =>
      simp only [blksOf, List.mem_cons] at h
      rcases h with rfl | h
      · exact ⟨0, cs, t, by simp, by simp⟩
      · exact up (mem_blks ms (n + 1) h)
    | q => exact up (mem_blks ms (n + 1) h)
    | p => exact up (mem_blks ms (n + 1) h)
    | t => exact up (mem_blks ms (n + 1) h)
theorem blks_apart {bs : Nat → Nat} : ∀ (ms : List Mark) (n : Nat), (∀ i j, i ≠ j → (∃ cs t, ms[i]? = some (.a cs t)) → (∃ cs t, ms[j]? = some (.a cs t)) → bs (n + i) ≠ bs (n + j)) → (blksOf bs ms n).Pairwise fun a b => a.1 ≠ b.1
  | [], _, _ => List.Pairwise.nil
  | m :: ms, n, h => by
    have ih := blks_apart (bs := bs) ms (n + 1) fun i j hij hi hj => by
      have := h (i + 1) (j + 1) (by omega) (by simpa using hi) (by simpa using hj)
      rwa [show n + 1 + i = n + (i + 1) by omega, show n + 1 + j = n + (j + 1) by omega]
    cases m with
    | a cs t =>
      refine List.Pairwise.cons (fun x hx => ?_) ih
      obtain ⟨j, cs', t', h1, rfl⟩ := mem_blks ms (n + 1) hx
      have := h 0 (j + 1) (by omega) ⟨cs, t, by simp⟩ ⟨cs', t', by simpa using h1⟩
      rwa [show n + 1 + j = n + (j + 1) by omega]
    | q => exact ih
    | p => exact ih
    | t => exact ih
theorem putB_eq {mk : Nat → Mark} (hd : dstApart ops = true) {bs : Nat → Nat} {vs : Nat → Value} {a0 : Act} (hv : ∀ i cs t, i < ops.size → mk i = .a cs t → vs i = .pointer (some ⟨bs i, 0, none⟩)) : ∀ (rest : List Oper) (ms : List Mark) (n : Nat), rest.length = ms.length → n + rest.length = ops.size → (∀ j, rest[j]? = ops[n + j]?) → (∀ j m, ms[j]? = some m → m = mk (n + j)) →
    putB bs rest ms n (frameOf ops vs (fun j => (mk j).isQ || (decide (j < n) && (mk j).isA)) a0 ops.size) = frameOf ops vs (fun j => !(mk j).isT) a0 ops.size
  | [], ms, n, _, hn, _, _ => by
    have : putB bs [] ms n (frameOf ops vs (fun j => (mk j).isQ || (decide (j < n) && (mk j).isA)) a0 ops.size) = frameOf ops vs (fun j => (mk j).isQ || (decide (j < n) && (mk j).isA)) a0 ops.size := by cases ms <;> rfl
    rw [this]
    refine frame_congr _ fun j hj => ?_
    have : decide (j < n) = true := by simp at hn; simp; omega
    rw [this]
    rcases (mk j).trio with ⟨h1, h2, h3⟩ | ⟨h1, h2, h3⟩ | ⟨h1, h2, h3⟩ <;> simp [h1, h2, h3]
  | _ :: _, [], _, h, _, _, _ => by simp at h
  | o :: rest, m :: ms, n, hlen, hn, hr, hms => by
    have ho : ops[n]? = some o := by simpa using (hr 0).symm
    have hnn : n < ops.size := (Array.getElem?_eq_some_iff.1 ho).1
    have hm : m = mk n := hms 0 m (by simp)
    have ih := putB_eq (mk := mk) hd (bs := bs) (vs := vs) (a0 := a0) hv rest ms (n + 1) (by simpa using hlen) (by simp at hn; omega) (fun j => by
      have := hr (j + 1)
      simpa [Nat.add_assoc, Nat.add_comm 1 j] using this) (fun j m' hj => by
      have := hms (j + 1) m' (by simpa using hj)
      rw [this]; congr 1; omega)
    have stay : (mk n).isA = false → frameOf ops vs (fun j => (mk j).isQ || (decide (j < n + 1) && (mk j).isA)) a0 ops.size = frameOf ops vs (fun j => (mk j).isQ || (decide (j < n) && (mk j).isA)) a0 ops.size := fun hA => by
      refine frame_congr _ fun j _ => ?_
      by_cases e : j = n
      · subst e; simp [hA]
      · have h2 : decide (j < n + 1) = decide (j < n) := by simp; omega
        rw [h2]
    cases hmm : m with
    | a cs t =>
      have hmn : mk n = .a cs t := by rw [← hm, hmm]
      have hm1 := frame_more hd (vs := vs) (L := fun j => (mk j).isQ || (decide (j < n) && (mk j).isA)) (a0 := a0) (i := n) (by simp [hmn, Mark.isQ]) ops.size hnn
      rw [show (ops[n]?).bind (·.dst) = o.dst by rw [ho]; rfl, hv n cs t hnn hmn] at hm1
      simp only [putB]
      rw [← hm1, ← ih]
      congr 1
      refine frame_congr _ fun j _ => ?_
      by_cases e : j = n
      · subst e; simp [hmn, Mark.isA]
      · have h1 : (j == n) = false := by simpa using e
        have h2 : decide (j < n + 1) = decide (j < n) := by simp; omega
        rw [h1, h2, Bool.false_or]
    | q =>
      have hA : (mk n).isA = false := by rw [← hm, hmm]; rfl
      rw [← ih, stay hA]; rfl
    | p =>
      have hA : (mk n).isA = false := by rw [← hm, hmm]; rfl
      rw [← ih, stay hA]; rfl
    | t =>
      have hA : (mk n).isA = false := by rw [← hm, hmm]; rfl
      rw [← ih, stay hA]; rfl

end
end Go.Proofs.YtlgidjanmaijaaaGreatDoor

/- A region of quiet operations and of a chain: the operations of the chain come one behind the other, whatever order is drawn, and may turn what the call owns; the quiet ones come when they like. For any program. -/
namespace Go.Proofs.YtlgidjanmaijaaaGreatDoor
set_option linter.all false
open Go.RowKit
section
variable {P : Program} {ops : Array Oper} {F : World → Prop} {QN : Act → World → Prop}

/-- who is not of the chain waits for quiet ones alone; the chain's are in a row -/
def chainOk (ops : Array Oper) (mk : Nat → Mark) : Bool :=
  fixedOk ops && (List.range ops.size).all fun i => ((mk i).isQ || (mk i).isT) && (List.range ops.size).all fun j =>
    if (mk i).isT then !((mk j).isT && decide (j < i)) || deps ops 5 i j else !(waits ops i j && (mk j).isT)

/-- the walk along the chain: what holds of the world ahead of each of its operations is kept by whatever leaves all as it was -/
def Chain (P : Program) (ops : Array Oper) (F : World → Prop) (QN : Act → World → Prop) : List Oper → Act → (World → Prop) → Prop
  | [], a, C => ∀ w, C w → QN a w
  | o :: rest, a, C =>
    (Region.wanted o (yielded ops a.tmps) = true ∧ ∀ w, C w → o.wp P a w (fun a' w' => ∃ C' : World → Prop, C' w' ∧ (∀ w w', C' w → Ext w w' → C' w') ∧ (∀ w, C' w → F w) ∧ Chain P ops F QN rest a' C') (fun _ _ _ => False)) ∨
    (Region.wanted o (yielded ops a.tmps) = false ∧ Chain P ops F QN rest (a.put o.dst undef) C)

theorem Chain.eq_cons {o : Oper} {rest : List Oper} {a : Act} {C : World → Prop} : Chain P ops F QN (o :: rest) a C = ((Region.wanted o (yielded ops a.tmps) = true ∧ ∀ w, C w → o.wp P a w (fun a' w' => ∃ C' : World → Prop, C' w' ∧ (∀ w w', C' w → Ext w w' → C' w') ∧ (∀ w, C' w → F w) ∧ Chain P ops F QN rest a' C') (fun _ _ _ => False)) ∨
    (Region.wanted o (yielded ops a.tmps) = false ∧ Chain P ops F QN rest (a.put o.dst undef) C)) := rfl

theorem phaseC {mk : Nat → Mark} {Q : Exit → Act → World → Prop} {a00 : Act} {vsQ : Nat → Value} (hok : chainOk ops mk = true) (hQN : ∀ a w, QN a w → Q .normal a w)
    (hq : ∀ i o, ops[i]? = some o → (mk i).isT = false → (Region.wanted o (yielded ops (frameQ ops mk vsQ a00 i).tmps) = true ∧ StepOK P F o (frameQ ops mk vsQ a00 i) (vsQ i)) ∨ (Region.wanted o (yielded ops (frameQ ops mk vsQ a00 i).tmps) = false ∧ vsQ i = undef)) :
    ∀ (fuel : Nat) (listed : Array Bool) (vs : Nat → Value) (a0 : Act) (w : World) (rest : List Nat) (C : World → Prop), a0.tmps = a00.tmps → listed.size = ops.size → ((List.range ops.size).filter fun j => !listed.getD j true).length ≤ fuel →
      (∀ i j, listed.getD i false = true → waits ops i j = true → listed.getD j false = true) →
      (∀ i, (mk i).isT = false → vs i = vsQ i) →
      rest = (List.range ops.size).filter (fun i => (mk i).isT && !listed.getD i false) → C w → (∀ w w', C w → Ext w w' → C w') → (∀ w, C w → F w) →
      Chain P ops F QN (rest.filterMap (ops[·]?)) (frameOf ops vs (fun j => !(mk j).isT || listed.getD j false) a0 ops.size) C →
      wpAny P .any ops Q fuel listed (frameOf ops vs (fun j => listed.getD j false) a0 ops.size) w := by
  simp only [chainOk, Bool.and_eq_true] at hok
  obtain ⟨hfx, hch⟩ := hok
  have hd : dstApart ops = true := by simp only [fixedOk, Bool.and_eq_true] at hfx; exact hfx.1
  have hl : looksOk ops = true := by simp only [fixedOk, Bool.and_eq_true] at hfx; exact hfx.2
  rw [List.all_eq_true] at hch
  have hchain : ∀ i j, i < ops.size → (mk i).isT = true → (mk j).isT = true → j < i → deps ops 5 i j = true := fun i j hi hT hTj hji => by
    have h := hch i (by simpa using hi)
    rw [Bool.and_eq_true] at h
    have h2 := List.all_eq_true.1 h.2 j (by simpa using Nat.lt_trans hji hi)
    rw [hT, hTj] at h2
    simpa [hji] using h2
  have hquiet : ∀ i j, (mk i).isT = false → waits ops i j = true → (mk j).isT = false := fun i j hT hw => by
    have hi := waits_lt hw
    have h := hch i (by simpa using hi)
    rw [Bool.and_eq_true] at h
    have h2 := List.all_eq_true.1 h.2 j (by simpa using Nat.lt_trans (waits_on hl hw) hi)
    rw [hT, hw] at h2
    simpa using h2
  have hQT : ∀ i, i < ops.size → (mk i).isQ = !(mk i).isT := fun i hi => by
    have h := hch i (by simpa using hi)
    rw [Bool.and_eq_true] at h
    rcases (mk i).trio with ⟨a, b, c⟩ | ⟨a, b, c⟩ | ⟨a, b, c⟩ <;> simp [a, c] at h ⊢
  have fin : ∀ (listed : Array Bool) (vs : Nat → Value) (a0 : Act) (w : World) (rest : List Nat) (C : World → Prop), listed.size = ops.size → rest = (List.range ops.size).filter (fun i => (mk i).isT && !listed.getD i false) → C w →
      Chain P ops F QN (rest.filterMap (ops[·]?)) (frameOf ops vs (fun j => !(mk j).isT || listed.getD j false) a0 ops.size) C → Region.ready .any ops listed = [] → Q .normal (frameOf ops vs (fun j => listed.getD j false) a0 ops.size) w := by
    intro listed vs a0 w rest C hs hrest hC hw hr
    have hall := all_listed hl hs hr
    have : rest = [] := by
      rw [hrest, List.filter_eq_nil_iff]
      intro i hi
      simp [hall i (by simpa using hi)]
    subst this
    rw [frame_congr (M := fun j => !(mk j).isT || listed.getD j false) ops.size (fun j hj => by simp [hall j hj])]
    exact hQN _ _ (hw w hC)
  intro fuel
  induction fuel with
  | zero =>
    intro listed vs a0 w rest C _ hs hn _ _ hrest hC _ _ hw
    have hr : Region.ready .any ops listed = [] := by
      rw [List.eq_nil_iff_forall_not_mem]
      intro i hi
      obtain ⟨h0, o, ho, _⟩ := mem_ready.1 hi
      have : i ∈ (List.range ops.size).filter fun j => !listed.getD j true := List.mem_filter.2 ⟨by simpa using (Array.getElem?_eq_some_iff.1 ho).1, by simp [h0]⟩
      rw [List.eq_nil_of_length_eq_zero (Nat.le_zero.1 hn)] at this
      cases this
    exact ⟨hr, fin listed vs a0 w rest C hs hrest hC hw hr⟩
  | succ fuel ih =>
    intro listed vs a0 w rest C h00 hs hn hcld hvs hrest hC hCx hCF hw
    refine ⟨fin listed vs a0 w rest C hs hrest hC hw, fun i hi => ?_⟩
    obtain ⟨h0, o, ho, hall⟩ := mem_ready.1 hi
    have hi' : i < ops.size := (Array.getElem?_eq_some_iff.1 ho).1
    have hsi : i < listed.size := by omega
    have hLi : listed.getD i false = false := by simpa [Array.getD_eq_getD_getElem?, hsi] using h0
    have hwl : ∀ j, waits ops i j = true → listed.getD j false = true := fun j hj => by
      obtain ⟨e, he, hb, rfl⟩ := (waits_spec ho).1 hj
      exact hall e he hb
    have hlw : ∀ j, waits ops j i = true → listed.getD j false = false := fun j hj => by
      cases hb : listed.getD j false with
      | false => rfl
      | true => rw [hcld j i hb hj] at hLi; cases hLi
    have hset := set_getD hsi
    cases hT : (mk i).isT with
    | false =>
      have hput : (ops[i]?).bind (·.dst) = o.dst := by rw [ho]; rfl
      have hwQ : vs i = vsQ i := hvs i hT
      refine wpOp_fixed (b := frameQ ops mk vsQ a00 i) (v := vsQ i) ho (sel_of hl ho) ?_ (hCF w hC) (hq i o ho hT) ?_
      · intro t ht
        unfold frameQ
        refine frames_agree2 hd hl h00 ho (fun j hj hw => ⟨hwl j hw, ?_, ?_⟩) (fun j hj hw => ⟨hlw j hw, by simp; omega⟩) ht
        · simp [hj, hQT j (Nat.lt_trans hj hi'), hquiet i j hT hw]
        · exact hvs j (hquiet i j hT hw)
      · intro w' hx
        have hmore := frame_more hd (vs := vs) (L := fun j => listed.getD j false) (a0 := a0) hLi ops.size hi'
        rw [hput, hwQ] at hmore
        rw [← hmore, frame_congr (M := fun j => (listed.setIfInBounds i true).getD j false) ops.size (fun j _ => (hset j).symm)]
        refine ih _ vs a0 w' rest C h00 (by simpa using hs) (set_count hsi hi' h0 hn) (set_closed hsi ho hall hcld) hvs ?_ (hCx w w' hC hx) hCx hCF ?_
        · rw [hrest]
          refine List.filter_congr fun j _ => ?_
          rw [hset]
          by_cases e : j = i
          · subst e; simp [hT]
          · have : (j == i) = false := by simpa using e
            rw [this, Bool.false_or]
        · rw [frame_congr (M := fun j => !(mk j).isT || listed.getD j false) ops.size (fun j _ => by
            rw [hset]
            by_cases e : j = i
            · subst e; simp [hT]
            · have : (j == i) = false := by simpa using e
              rw [this, Bool.false_or])]
          exact hw
    | true =>
      have hput : (ops[i]?).bind (·.dst) = o.dst := by rw [ho]; rfl
      have hnQ : ∀ j, (mk j).isT = false → j ≠ i := fun j hj e => by subst e; rw [hT] at hj; cases hj
      have hhead : rest = i :: (List.range ops.size).filter (fun j => (mk j).isT && !(listed.setIfInBounds i true).getD j false) := by
        rw [hrest]
        refine filter_head hi' (fun j hj => ?_) (by simp [hT, hLi]) (fun j => ?_)
        · cases hTj : (mk j).isT with
          | false => simp
          | true => rw [deps_closed hcld 5 i j hwl (hchain i j hi' hT hTj hj)]; simp
        · rw [hset]
          by_cases e : j = i
          · subst e; simp
          · have : (j == i) = false := by simpa using e
            have h' : (j != i) = true := by simpa using e
            rw [this, h', Bool.false_or, Bool.and_true]
      rw [hhead, List.filterMap_cons, ho] at hw
      have hLf : ∀ j, (!(mk j).isT || (listed.setIfInBounds i true).getD j false) = (j == i || (!(mk j).isT || listed.getD j false)) := fun j => by
        rw [hset]
        by_cases e : j = i
        · subst e; simp
        · have : (j == i) = false := by simpa using e
          rw [this]; simp
      have hgo : ∀ (v : Value) (w' : World) (ds : List Deferred) (C' : World → Prop), C' w' → (∀ w w', C' w → Ext w w' → C' w') → (∀ w, C' w → F w) → Chain P ops F QN ((List.filter (fun j => (mk j).isT && !(listed.setIfInBounds i true).getD j false) (List.range ops.size)).filterMap (ops[·]?)) ((frameOf ops vs (fun j => !(mk j).isT || listed.getD j false) { a0 with defers := ds } ops.size).put o.dst v) C' →
          wpAny P .any ops Q fuel (listed.setIfInBounds i true) ((frameOf ops vs (fun j => listed.getD j false) { a0 with defers := ds } ops.size).put o.dst v) w' := by
        intro v w' ds C' hC' hCx' hCF' hw'
        obtain ⟨us, hus⟩ : ∃ us : Nat → Value, us = fun j => if j = i then v else vs j := ⟨_, rfl⟩
        have hui : us i = v := by rw [hus]; simp
        have huo : ∀ j, j ≠ i → us j = vs j := fun j hj => by rw [hus]; simp [hj]
        have m1 := frame_more hd (vs := us) (L := fun j => listed.getD j false) (a0 := { a0 with defers := ds }) hLi ops.size hi'
        have m2 := frame_more hd (vs := us) (L := fun j => !(mk j).isT || listed.getD j false) (a0 := { a0 with defers := ds }) (i := i) (by rw [hT, hLi]; rfl) ops.size hi'
        rw [hput, hui, frame_vsL (us := vs) (L := fun j => listed.getD j false) (fun j hj => huo j (fun e => by have hj : listed.getD j false = true := hj; rw [e, hLi] at hj; cases hj))] at m1
        rw [hput, hui, frame_vsL (us := vs) (L := fun j => !(mk j).isT || listed.getD j false) (fun j hj => huo j (fun e => by have hj : (!(mk j).isT || listed.getD j false) = true := hj; rw [e, hT, hLi] at hj; cases hj))] at m2
        rw [← m1, frame_congr (M := fun j => (listed.setIfInBounds i true).getD j false) ops.size (fun j _ => (hset j).symm)]
        rw [← m2, frame_congr (M := fun j => !(mk j).isT || (listed.setIfInBounds i true).getD j false) ops.size (fun j _ => (hLf j).symm)] at hw'
        exact ih _ us { a0 with defers := ds } w' _ C' h00 (by simpa using hs) (set_count hsi hi' h0 hn) (set_closed hsi ho hall hcld)
          (fun j hj => by rw [huo j (hnQ j hj)]; exact hvs j hj) rfl hC' hCx' hCF' hw'
      have hab : ∀ t ∈ o.looksAt ops, (frameOf ops vs (fun j => listed.getD j false) a0 ops.size).tmps[t]? = (frameOf ops vs (fun j => !(mk j).isT || listed.getD j false) a0 ops.size).tmps[t]? := fun t ht =>
        frames_agree2 hd hl rfl ho (fun j hj hw => ⟨hwl j hw, by simp [hwl j hw], rfl⟩) (fun j hj hw => ⟨hlw j hw, by
          cases hTj : (mk j).isT with
          | true => simp [hlw j hw]
          | false =>
            have := hquiet j i hTj hw
            rw [hT] at this; cases this⟩) ht
      have e0 : ∀ (L : Nat → Bool) (ds : List Deferred), ({ frameOf ops vs L a0 ops.size with defers := ds } : Act) = frameOf ops vs L { a0 with defers := ds } ops.size := fun L ds => (frame_defers ops.size).symm
      have e1 : ∀ (L : Nat → Bool), (frameOf ops vs L a0 ops.size).defers = a0.defers := fun L => (frame_size ops.size).2
      unfold wpOp
      simp only [ho]
      rw [wanted_agree hab]
      rw [Chain.eq_cons] at hw
      rcases hw with ⟨hwt, hw⟩ | ⟨hwt, hw⟩
      · rw [if_pos hwt]
        refine .inl (wp_transfer (exec_agree hl ho hab) (fun _ _ _ h => h.elim) (fun v w' h => ?_) (fun d w' h => ?_) (hw w hC))
        · obtain ⟨C', h1, h2, h3, h4⟩ := h
          exact hgo v w' a0.defers C' h1 h2 h3 h4
        · rw [e0, e1] at h ⊢
          obtain ⟨C', h1, h2, h3, h4⟩ := h
          exact hgo undef w' _ C' h1 h2 h3 h4
      · rw [if_neg (by rw [hwt]; simp)]
        exact hgo undef w a0.defers C hC hCx hCF hw

/-- what the chain walks: the marked operations -/
def chainOf : List Oper → List Mark → List Oper
  | o :: l, m :: ms => if m.isT then o :: chainOf l ms else chainOf l ms
  | _, _ => []
theorem chain_eq {mk : Nat → Mark} : ∀ (rest : List Oper) (ms : List Mark) (n : Nat), rest.length = ms.length → (∀ j, rest[j]? = ops[n + j]?) → (∀ j m, ms[j]? = some m → m = mk (n + j)) →
    ((List.range' n rest.length).filter (fun i => (mk i).isT)).filterMap (ops[·]?) = chainOf rest ms
  | [], ms, n, hl, _, _ => by cases ms <;> simp_all [chainOf]
  | o :: rest, [], n, hl, _, _ => by simp at hl
  | o :: rest, m :: ms, n, hl, hr, hms => by
    have ho : ops[n]? = some o := by simpa using (hr 0).symm
    have hm : m = mk n := hms 0 m (by simp)
    have ih := chain_eq rest ms (n + 1) (by simpa using hl) (fun j => by have := hr (j + 1); simpa [Nat.add_assoc, Nat.add_comm 1 j] using this) (fun j m' hj => by have := hms (j + 1) m' (by simpa using hj); rw [this]; congr 1; omega)
    rw [List.length_cons, List.range'_succ, List.filter_cons]
    unfold chainOf
    rw [← hm]
    cases hT : m.isT with
    | true => rw [if_pos rfl, if_pos rfl, List.filterMap_cons, ho, ih]
    | false => rw [if_neg (by simp), if_neg (by simp), ih]

/-- **A region of quiet operations and of a chain**, whatever order is drawn. -/
theorem wp_region_chain {a : Act} {w : World} {C : World → Prop} {Q : Exit → Act → World → Prop} {id : Nat} {l : List Oper} (ms : List Mark) (F : World → Prop) (hm : P.follows .mixedOrders = true) (hlen : l.length = ms.length) (hok : chainOk l.toArray (mkOf ms) = true)
    (hC : C w) (hCx : ∀ w w', C w → Ext w w' → C w') (hCF : ∀ w, C w → F w)
    (h : Walk P l.toArray F (fun a' => Chain P l.toArray F (fun a w => Q .normal a w) (chainOf l ms) a' C) ms l a) : (Code.region id l.toArray true).wp P Q a w := by
  have hok' := hok
  simp only [chainOk, Bool.and_eq_true] at hok'
  have hd : dstApart l.toArray = true := by have := hok'.1; simp only [fixedOk, Bool.and_eq_true] at this; exact this.1
  have hmk : ∀ j m, ms[j]? = some m → m = mkOf ms j := fun j m hj => by simp [mkOf, hj]
  have h0 : ∀ vs : Nat → Value, frameOf l.toArray vs (fun _ => false) a l.toArray.size = a := fun vs => by
    generalize l.toArray.size = n
    induction n with
    | zero => rfl
    | succ n ih => unfold frameOf; simpa using ih
  obtain ⟨vsQ, _, hK, hst⟩ := Walk.values (mk := mkOf ms) hd (a0 := a) l ms 0 (fun _ => undef) (by simp) (by simp) (fun j m hj => by rw [Nat.zero_add]; exact hmk j m hj) (by
    have : frameQ l.toArray (mkOf ms) (fun _ => undef) a 0 = a := by
      unfold frameQ
      rw [frame_congr (M := fun _ => false) _ (fun j _ => by simp)]
      exact h0 _
    rw [this]; exact h)
  refine wp_region_any hm ?_
  have hq : ∀ i o, l.toArray[i]? = some o → (mkOf ms i).isT = false → (Region.wanted o (yielded l.toArray (frameQ l.toArray (mkOf ms) vsQ a i).tmps) = true ∧ StepOK P F o (frameQ l.toArray (mkOf ms) vsQ a i) (vsQ i)) ∨ (Region.wanted o (yielded l.toArray (frameQ l.toArray (mkOf ms) vsQ a i).tmps) = false ∧ vsQ i = undef) := by
    intro i o ho hT
    have hi : i < l.toArray.size := (Array.getElem?_eq_some_iff.1 ho).1
    have hh := List.all_eq_true.1 hok'.2 i (by simpa using hi)
    rw [Bool.and_eq_true] at hh
    have := hst i o (Nat.zero_le _) ho
    cases hmi : mkOf ms i with
    | q => rw [hmi] at this; exact this
    | p =>
      rw [hmi] at this
      rcases this with ⟨h1, h2⟩ | h
      · exact .inl ⟨h1, .inl fun w _ => h2 w⟩
      · exact .inr h
    | a cs t => rw [hmi] at hh; simp [Mark.isQ, Mark.isT] at hh
    | t => rw [hmi] at hT; cases hT
  have key := phaseC (P := P) (F := F) (QN := fun a w => Q .normal a w) (mk := mkOf ms) (Q := Q) (a00 := a) (vsQ := vsQ) hok (fun _ _ h => h) hq l.toArray.size (Array.replicate l.toArray.size false) vsQ a w.drew ((List.range l.toArray.size).filter (fun i => (mkOf ms i).isT)) C rfl (by simp) (by
      have := List.length_filter_le (fun j => !(Array.replicate l.toArray.size false).getD j true) (List.range l.toArray.size)
      simpa using this) (fun i j hi => by rw [repl_false] at hi; cases hi) (fun _ _ => rfl) (List.filter_congr fun j _ => by rw [repl_false]; simp) (hCx w w.drew hC ((Ext.refl w).drew)) hCx hCF ?_
  · rw [frame_congr (M := fun _ => false) l.toArray.size (fun j hj => repl_false _ _), h0] at key
    exact key
  · have e1 : frameQ l.toArray (mkOf ms) vsQ a l.toArray.size = frameOf l.toArray vsQ (fun j => !(mkOf ms j).isT || (Array.replicate l.toArray.size false).getD j false) a l.toArray.size := by
      unfold frameQ
      refine frame_congr _ fun j hj => ?_
      have hh := List.all_eq_true.1 hok'.2 j (by simpa using hj)
      rw [Bool.and_eq_true] at hh
      rw [repl_false, show decide (j < l.toArray.size) = true by simpa using hj]
      rcases (mkOf ms j).trio with ⟨a, b, c⟩ | ⟨a, b, c⟩ | ⟨a, b, c⟩ <;> simp [a, c] at hh ⊢
    rw [← e1]
    have e2 := chain_eq (ops := l.toArray) (mk := mkOf ms) l ms 0 hlen (by simp) (fun j m hj => by rw [Nat.zero_add]; exact hmk j m hj)
    rw [← List.range_eq_range'] at e2
    rw [show l.toArray.size = l.length by simp, e2]
    exact hK
end
end Go.Proofs.YtlgidjanmaijaaaGreatDoor

/- Regions under Hp: quiet operations and a chain that turns what the call owns. For any program. -/
namespace Go.Proofs.YtlgidjanmaijaaaGreatDoor
set_option linter.all false
open Go.RowKit
section
variable {P : Program} {ops : Array Oper} {F : World → Prop} {QN : Act → World → Prop} {B : Nat} {w0 : World} {L : List Item} {o : Oper} {rest : List Oper} {a : Act}
theorem Chain.here {l : List Oper} {C : World → Prop} (h : Chain P ops F QN l a C) : Chain P ops F QN l a C := h
theorem Chain.done (h : ∀ w, Hp B w0 w L → QN a w) : Chain P ops F QN [] a (fun W => Hp B w0 W L) := h
theorem Chain.skip (hw : Region.wanted o (yielded ops a.tmps) = false) (h : Chain P ops F QN rest (a.put o.dst undef) (fun W => Hp B w0 W L)) : Chain P ops F QN (o :: rest) a (fun W => Hp B w0 W L) := .inr ⟨hw, h⟩
/-- an operation of the chain that only computes or reads -/
theorem Chain.val {v : Value} (hw : Region.wanted o (yielded ops a.tmps) = true) (hF : ∀ w, Hp B w0 w L → F w) (hr : ∀ w, Hp B w0 w L → (execOp a.eval o).run P w = .ok (.value v) w)
    (h : Chain P ops F QN rest (a.put o.dst v) (fun W => Hp B w0 W L)) : Chain P ops F QN (o :: rest) a (fun W => Hp B w0 W L) := by
  refine .inl ⟨hw, fun w hS => ?_⟩
  unfold Oper.wp
  rw [hr w hS]
  exact ⟨_, hS, fun _ _ h hx => h.step hx, hF, h⟩
/-- an operation of the chain that makes a block -/
theorem Chain.alloc {cs : List Value} {t : TypeId} {f : Nat → Value} (hw : Region.wanted o (yielded ops a.tmps) = true) (hF : ∀ w, Hp B w0 w L → F w) (hr : ∀ w, Hp B w0 w L → (execOp a.eval o).run P w = .ok (.value (f w.heap.size)) (w.alloc (.cells cs.toArray t)))
    (h : ∀ g, Chain P ops F QN rest (a.put o.dst (f g)) (fun W => Hp B w0 W (.blk g cs t :: L))) : Chain P ops F QN (o :: rest) a (fun W => Hp B w0 W L) := by
  refine .inl ⟨hw, fun w hS => ?_⟩
  unfold Oper.wp
  rw [hr w hS]
  exact ⟨fun W => Hp B w0 W (.blk w.heap.size cs t :: L), hS.alloc cs t, fun _ _ h hx => h.step hx, fun W hW => hF W hW.tail, h _⟩
/-- a call of the chain -/
theorem Chain.call {f : FuncId} {args : Array Value} (hw : Region.wanted o (yielded ops a.tmps) = true) (hr : ∀ w, Hp B w0 w L → (execOp a.eval o).run P w = .ok (.enter f args) w)
    (hc : ∀ w, Hp B w0 w L → Calls P f args w fun e w' => ∃ (v : Value) (L' : List Item), e = .returned v ∧ Hp B w0 w' L' ∧ (∀ w, Hp B w0 w L' → F w) ∧ Chain P ops F QN rest (a.put o.dst v) (fun W => Hp B w0 W L')) :
    Chain P ops F QN (o :: rest) a (fun W => Hp B w0 W L) := by
  refine .inl ⟨hw, fun w hS => ?_⟩
  unfold Oper.wp
  rw [hr w hS]
  refine (hc w hS).mono fun e w' ⟨v, L', h1, h2, h3, h4⟩ => ?_
  subst h1
  exact ⟨_, h2, fun _ _ h hx => h.step hx, h3, h4⟩
/-- a store of the chain, or whatever yields nothing and turns what is owned -/
theorem Chain.turn {L' : List Item} (hw : Region.wanted o (yielded ops a.tmps) = true) (hr : ∀ w, Hp B w0 w L → ∃ w', ((execOp a.eval o).run P w = .ok .skip w' ∨ (execOp a.eval o).run P w = .ok (.value undef) w') ∧ Hp B w0 w' L')
    (hF : ∀ w, Hp B w0 w L' → F w) (h : Chain P ops F QN rest (a.put o.dst undef) (fun W => Hp B w0 W L')) : Chain P ops F QN (o :: rest) a (fun W => Hp B w0 W L) := by
  refine .inl ⟨hw, fun w hS => ?_⟩
  obtain ⟨w', hrun, h2⟩ := hr w hS
  unfold Oper.wp
  rcases hrun with hrun | hrun <;> rw [hrun] <;> exact ⟨_, h2, fun _ _ h hx => h.step hx, hF, h⟩
/-- append of elements that lie at ad, in the chain -/
theorem Chain.append {t e : TypeId} {size bytes n m c cap : Nat} {A : Option Addr} {xs news : List Value} {L0 : List Item} (hE : Elem P t e size bytes) (hw : Region.wanted o (yielded ops a.tmps) = true) (s x : Operand)
    (ho : o.op = .call { callee := .builtin .append, args := #[s, x], argTypes := #[t, t] }) (i : Nat) (hi : L[i]? = some (.row e size A n cap xs)) (hL0 : L.eraseIdx i = L0) (hs : a.eval s = .slice A n cap) (ad : Addr) (hx : a.eval x = .slice (some ad) m c) (hl : news.length = m * size)
    (hnews : ∀ w, Hp B w0 w L → ∀ j u, news[j]? = some u → w.cell? (ad.add j) = some u) (h1 : ∀ u ∈ news, u.oneCell' = true) (hn : (n + m) * bytes ≤ 140737488355328) (hm : n + m ≤ 140737488355328)
    (hF : ∀ w, Hp B w0 w L0 → F w) (h : ∀ A' cap', Chain P ops F QN rest (a.put o.dst (.slice A' (n + m : Nat) cap')) (fun W => Hp B w0 W (.row e size A' (n + m) cap' (xs ++ news) :: L0))) :
    Chain P ops F QN (o :: rest) a (fun W => Hp B w0 W L) := by
  subst hL0
  refine .inl ⟨hw, fun w hS => ?_⟩
  obtain ⟨A', cap', w', hr, h2⟩ := run_append_hp (P := P) (c := c) (ty := o.type) hE (hS.front i hi) ad hl (hnews w hS) h1 hn hm
  unfold Oper.wp execOp
  simp only [ho, resolve, invoke, builtin, Sem.run_bind, Sem.run_pure, Result.andThen_ok, List.map_toArray, List.map_cons, List.map_nil, hs, hx, hr]
  exact ⟨_, h2, fun _ _ h hx => h.step hx, fun W hW => hF W hW.tail, h A' cap'⟩
theorem wp_region_chain_hp {w : World} {Q : Exit → Act → World → Prop} {id : Nat} {l : List Oper} (ms : List Mark) (LF : List Item) (hm : P.follows .mixedOrders = true) (hlen : l.length = ms.length) (hok : chainOk l.toArray (mkOf ms) = true)
    (hS : Hp B w0 w L) (hLF : ∀ w, Hp B w0 w L → Hp B w0 w LF)
    (h : Walk P l.toArray (fun W => Hp B w0 W LF) (fun a' => Chain P l.toArray (fun W => Hp B w0 W LF) (fun a w => Q .normal a w) (chainOf l ms) a' (fun W => Hp B w0 W L)) ms l a) : (Code.region id l.toArray true).wp P Q a w :=
  wp_region_chain ms (fun W => Hp B w0 W LF) hm hlen hok hS (fun _ _ h hx => h.step hx) hLF h
end
end Go.Proofs.YtlgidjanmaijaaaGreatDoor

/- errors.As at an Errno: by the way of the guide's ToyasAs. -/
namespace Go.Proofs.YtlgidjanmaijaaaGreatDoor
set_option linter.all false
set_option linter.unusedSimpArgs false
set_option linter.unusedVariables false
open Go.RowKit
open Go.Extern.Stop Go.Stop Go.Extern

/-! ### CLOSED FACTS ON THE MODEL's ENTRIES FOR internal/reflectlite, at this program's types: 25: *p.E · 27: **p.E · 23: error · 45: reflectlite's rtype · 1: how many package-level variables the dump has -/
theorem as_valueOf27 (t : Addr) (w : World) : (ReflectliteValue.unpack (.iface 89 (.pointer (some t)))).run Tryz.prog w
    = .ok (.agg #[.pointer (some ⟨10, 89, none⟩), .pointer (some ⟨w.heap.size, 0, none⟩), .int .u64 150]) (w.alloc (.cells #[.pointer (some t)] 89)) := by kernel_rfl
theorem as_type27 (a : Addr) (w : World) : (ReflectliteValue.methodAny (ReflectliteValue.valueError "reflectlite.Value.Type" 0) (fun t _ _ _ => ReflectliteType.toType t) #[.agg #[.pointer (some ⟨10, 89, none⟩), .pointer (some a), .int .u64 150]]).run Tryz.prog w
    = .ok (.iface 158 (.agg #[.pointer (some ⟨10, 89, none⟩)])) w := by kernel_rfl
theorem as_methodKind (h : Value) (w : World) : (Go.method 378 158 (.agg #[h]) "Kind").run Tryz.prog w = .ok (185, h) w := by kernel_rfl
theorem as_kind27 (w : World) : ((ReflectliteType.abiMethod fun t => (fun a : Nat => Value.int IntKind.u8 (a : Int)) <$> Rtype.kind t) #[.pointer (some ⟨10, 89, none⟩)]).run Tryz.prog w = .ok (.int .u8 22) w := by kernel_rfl
theorem as_kind25 (w : World) : ((ReflectliteType.abiMethod fun t => (fun a : Nat => Value.int IntKind.u8 (a : Int)) <$> Rtype.kind t) #[.pointer (some ⟨10, 64, none⟩)]).run Tryz.prog w = .ok (.int .u8 2) w := by kernel_rfl

/-! ### THE ENTRIES THAT READ OR WRITE MEMORY: laws with a premise on the cell (after Derived/Lib/ReflectliteSlice.lean's manner: each unfolding a lemma of its own, by rfl) -/
theorem rlm (z : Sem Value) (f : TypeId → Addr → Nat → Nat → Sem Value) (v : Value) :
    ReflectliteValue.method z f #[v] = (do match ← ReflectliteValue.parts v with | none => z | some (t, a, fl) => f t a fl (fl % 32)) := rfl
theorem as_parts27 (a : Addr) (w : World) : (ReflectliteValue.parts (.agg #[.pointer (some ⟨10, 89, none⟩), .pointer (some a), .int .u64 150])).run Tryz.prog w = .ok (some (89, a, 150)) w := by kernel_rfl
/-- (Value).IsNil at the Value of a **p.E that is not nil. -/
theorem as_isNil27 (a p : Addr) (W : World) (ha : W.cell? a = some (.pointer (some p))) :
    (ReflectliteValue.method (ReflectliteValue.valueError "reflectlite.Value.IsNil" 0) ReflectliteValue.isNil #[.agg #[.pointer (some ⟨10, 89, none⟩), .pointer (some a), .int .u64 150]]).run Tryz.prog W = .ok (.bool false) W := by
  rw [rlm]
  simp only [Sem.run_bind, as_parts27, Result.andThen]
  simp [ReflectliteValue.isNil, loadVar, isAgg, underlying, Tryz.underlying89, ha, Result.andThen]

theorem as_methodElem (h : Value) (w : World) : (Go.method 378 158 (.agg #[h]) "Elem").run Tryz.prog w = .ok (198, .agg #[h]) w := by kernel_rfl
theorem as_methodImplements (h : Value) (w : World) : (Go.method 378 158 (.agg #[h]) "Implements").run Tryz.prog w = .ok (199, .agg #[h]) w := by kernel_rfl
theorem as_methodAssignableTo (h : Value) (w : World) : (Go.method 378 158 (.agg #[h]) "AssignableTo").run Tryz.prog w = .ok (196, .agg #[h]) w := by kernel_rfl
theorem as_elem27 (w : World) : (ReflectliteType.method ReflectliteType.elem #[.agg #[.pointer (some ⟨10, 89, none⟩)]]).run Tryz.prog w = .ok (.iface 158 (.agg #[.pointer (some ⟨10, 64, none⟩)])) w := by kernel_rfl
theorem as_implements25 (w : World) : (ReflectliteType.relation "Implements" ReflectliteType.implements_ #[.agg #[.pointer (some ⟨10, 64, none⟩)], .iface 158 (.agg #[.pointer (some ⟨10, 44, none⟩)])]).run Tryz.prog w = .ok (.bool true) w := by kernel_rfl
theorem as_typeOf25 (v : Value) (w : World) : (ReflectliteType.typeOf #[.iface 64 v]).run Tryz.prog w = .ok (.iface 158 (.agg #[.pointer (some ⟨10, 64, none⟩)])) w := by kernel_rfl
theorem as_assignable25 (w : World) : (ReflectliteType.relation "AssignableTo" ReflectliteType.assignableTo #[.agg #[.pointer (some ⟨10, 64, none⟩)], .iface 158 (.agg #[.pointer (some ⟨10, 64, none⟩)])]).run Tryz.prog w = .ok (.bool true) w := by kernel_rfl
theorem as_valueOf25 (e : Int) (w : World) : (ReflectliteValue.unpack (.iface 64 (.int .i64 e))).run Tryz.prog w
    = .ok (.agg #[.pointer (some ⟨10, 64, none⟩), .pointer (some ⟨w.heap.size, 0, none⟩), .int .u64 130]) (w.alloc (.cells #[.int .i64 e] 64)) := by kernel_rfl

theorem as_elemOf27 (w : World) : (Rtype.elem? 89).run Tryz.prog w = .ok (some 64) w := by kernel_rfl
theorem as_mk25 (p : Addr) (w : World) : (ReflectliteValue.mk 64 p ReflectliteValue.flagAddr).run Tryz.prog w = .ok (.agg #[.pointer (some ⟨10, 64, none⟩), .pointer (some p), .int .u64 386]) w := by kernel_rfl
/-- (Value).Elem at the Value of a **p.E that is not nil: the Value of the *p.E variable that it points to, addressable. -/
theorem as_elemV27 (a p : Addr) (W : World) (ha : W.cell? a = some (.pointer (some p))) :
    (ReflectliteValue.method (ReflectliteValue.valueError "reflectlite.Value.Elem" 0) ReflectliteValue.elem #[.agg #[.pointer (some ⟨10, 89, none⟩), .pointer (some a), .int .u64 150]]).run Tryz.prog W
      = .ok (.agg #[.pointer (some ⟨10, 64, none⟩), .pointer (some p), .int .u64 386]) W := by
  rw [rlm]
  simp only [Sem.run_bind, as_parts27, Result.andThen]
  simp [ReflectliteValue.elem, loadVar, isAgg, underlying, Tryz.underlying89, ha, Result.andThen, as_elemOf27, as_mk25]
theorem rls (v x : Value) : ReflectliteValue.set #[v, x] = (do
    let (some (dst, a, fl), some (src, b, _)) := (← ReflectliteValue.parts v, ← ReflectliteValue.parts x)
      | unsupported (.noEntry "extern/(internal/reflectlite.Value).Set.zeroValue")
    if fl / ReflectliteValue.flagAddr % 2 == 0 then unsupported (.noEntry "extern/(internal/reflectlite.Value).Set.unaddressable")
    let val ← loadVar src b
    if ← Rtype.directlyAssignable dst src then storeVar dst a val
    else if ← Rtype.implements dst src then
      if (← Rtype.kind src) == 20 then
        match val with
        | .nilIface => unsupported (.noEntry "extern/reflectlite: a nil value of one interface type handed on as a value of another")
        | _ => storeVar dst a val
      else storeVar dst a (.iface src val)
    else panicString ("reflectlite.Set: value of type " ++ (← Rtype.spelt src) ++ " is not assignable to type " ++ (← Rtype.spelt dst))
    pure (.tuple #[])) := rfl
theorem as_parts25a (a : Addr) (w : World) : (ReflectliteValue.parts (.agg #[.pointer (some ⟨10, 64, none⟩), .pointer (some a), .int .u64 386])).run Tryz.prog w = .ok (some (64, a, 386)) w := by kernel_rfl
theorem as_parts25 (a : Addr) (w : World) : (ReflectliteValue.parts (.agg #[.pointer (some ⟨10, 64, none⟩), .pointer (some a), .int .u64 130])).run Tryz.prog w = .ok (some (64, a, 130)) w := by kernel_rfl
theorem as_direct25 (w : World) : (Rtype.directlyAssignable 64 64).run Tryz.prog w = .ok true w := by kernel_rfl
/-- (Value).Set: the *p.E variable at 'ta' gets what the Value's own variable 'b' holds. -/
theorem as_set25 (ta b : Addr) (e : Int) (old : Value) (W : World) (hb : W.cell? b = some (.int .i64 e)) (ht : W.cell? ta = some old) (hf : W.frozen? ta = false) :
    (ReflectliteValue.set #[.agg #[.pointer (some ⟨10, 64, none⟩), .pointer (some ta), .int .u64 386], .agg #[.pointer (some ⟨10, 64, none⟩), .pointer (some b), .int .u64 130]]).run Tryz.prog W
      = .ok (.tuple #[]) (W.setCell ta (.int .i64 e)) := by
  rw [rls]
  simp only [Sem.run_bind, as_parts25a, as_parts25, Result.andThen]
  simp [ReflectliteValue.flagAddr, loadVar, isAgg, underlying, Tryz.underlying64, hb, Result.andThen, as_direct25, storeVar, Value.cells, storeCells, Addr.add]
  rw [run_store Tryz.prog W ta _ _ (by rfl)]
  simp [ht, hf]

set_option maxRecDepth 100000 in
set_option maxHeartbeats 8000000 in
theorem as_hit (e : Int) (t : Addr) (old : Value) (w : World) (hg : w.cell? ⟨0, 0, none⟩ = some (.iface 158 (.agg #[.pointer (some ⟨10, 44, none⟩)]))) (ht0 : w.cell? t = some old) (hf0 : w.frozen? t = false) :
    Calls Tryz.prog 31 #[.iface 64 (.int .i64 e), .iface 89 (.pointer (some t))] w fun ev w' => ev = .returned (.bool true) ∧ w' = ((((w.alloc (.cells #[.pointer (some t)] 89)).alloc (.cells #[.pointer (some ⟨10, 89, none⟩), .pointer (some ⟨w.heap.size, 0, none⟩), .int .u64 150] 123)).alloc (.cells #[.pointer (some ⟨10, 89, none⟩), .pointer (some ⟨w.heap.size, 0, none⟩), .int .u64 150] 123)).alloc (.cells #[.int .i64 e] 64)).setCell t (.int .i64 e) := by
  have h6 := @run_callFunc_extern Tryz.prog 53 _ (fun args => ReflectliteValue.unpack (args.getD 0 (.tuple #[]))) Tryz.func53 (by kernel_rfl) (by kernel_rfl) (by kernel_rfl) (by kernel_rfl)
  have h7 := @run_callFunc_extern Tryz.prog 54 _ (ReflectliteValue.methodAny (ReflectliteValue.valueError "reflectlite.Value.Type" 0) (fun t _ _ _ => ReflectliteType.toType t)) Tryz.func54 (by kernel_rfl) (by kernel_rfl) (by kernel_rfl) (by kernel_rfl)
  have h8 := @run_callFunc_extern Tryz.prog 55 _ (ReflectliteValue.method (ReflectliteValue.valueError "reflectlite.Value.IsNil" 0) ReflectliteValue.isNil) Tryz.func55 (by kernel_rfl) (by kernel_rfl) (by kernel_rfl) (by kernel_rfl)
  have h27 := @run_callFunc_extern Tryz.prog 185 _ (ReflectliteType.abiMethod fun t => do pure (.int .u8 (← Rtype.kind t))) Tryz.func185 (by kernel_rfl) (by kernel_rfl) (by kernel_rfl) (by kernel_rfl)
  have h37 := @run_callFunc_extern Tryz.prog 198 _ (ReflectliteType.method ReflectliteType.elem) Tryz.func198 (by kernel_rfl) (by kernel_rfl) (by kernel_rfl) (by kernel_rfl)
  have h38 := @run_callFunc_extern Tryz.prog 199 _ (ReflectliteType.relation "Implements" ReflectliteType.implements_) Tryz.func199 (by kernel_rfl) (by kernel_rfl) (by kernel_rfl) (by kernel_rfl)
  have h10 := @run_callFunc_extern Tryz.prog 84 _ ReflectliteType.typeOf Tryz.func84 (by kernel_rfl) (by kernel_rfl) (by kernel_rfl) (by kernel_rfl)
  have h35 := @run_callFunc_extern Tryz.prog 196 _ (ReflectliteType.relation "AssignableTo" ReflectliteType.assignableTo) Tryz.func196 (by kernel_rfl) (by kernel_rfl) (by kernel_rfl) (by kernel_rfl)
  have h11 := @run_callFunc_extern Tryz.prog 85 _ (ReflectliteValue.method (ReflectliteValue.valueError "reflectlite.Value.Elem" 0) ReflectliteValue.elem) Tryz.func85 (by kernel_rfl) (by kernel_rfl) (by kernel_rfl) (by kernel_rfl)
  have h12 := @run_callFunc_extern Tryz.prog 86 _ ReflectliteValue.set Tryz.func86 (by kernel_rfl) (by kernel_rfl) (by kernel_rfl) (by kernel_rfl)
  have tO := as_typeOf25
  have mA := as_methodAssignableTo
  have a25 := as_assignable25
  have v25 := as_valueOf25
  have f6 := as_valueOf27
  have f7 := as_type27
  have mK := as_methodKind
  have mE := as_methodElem
  have mI := as_methodImplements
  have k27 := as_kind27
  have k25 := as_kind25
  have e27 := as_elem27
  have i25 := as_implements25
  have n8 := as_isNil27 ⟨w.heap.size, 0, none⟩ t ((w.alloc (.cells #[.pointer (some t)] 89)).alloc (.cells #[.pointer (some ⟨10, 89, none⟩), .pointer (some ⟨w.heap.size, 0, none⟩), .int .u64 150] 123)) (by simp)
  have hlt : 0 < w.heap.size := by
    rcases Nat.lt_or_ge 0 w.heap.size with h | h
    · exact h
    · simp [World.cell?, Array.getElem?_eq_none h] at hg
  have hg2 : ((w.alloc (.cells #[.pointer (some t)] 89)).alloc (.cells #[.pointer (some ⟨10, 89, none⟩), .pointer (some ⟨w.heap.size, 0, none⟩), .int .u64 150] 123)).cell? ⟨0, 0, none⟩ = some (.iface 158 (.agg #[.pointer (some ⟨10, 44, none⟩)])) := by
    rw [World.cell?_alloc_lt _ _ ⟨0, 0, none⟩ (by simp <;> omega), World.cell?_alloc_lt _ _ ⟨0, 0, none⟩ hlt]; exact hg
  have htl : t.block < w.heap.size := by
    rcases Nat.lt_or_ge t.block w.heap.size with h | h
    · exact h
    · simp [World.cell?, Array.getElem?_eq_none h] at ht0
  have el := as_elemV27 ⟨w.heap.size, 0, none⟩ t (((w.alloc (.cells #[.pointer (some t)] 89)).alloc (.cells #[.pointer (some ⟨10, 89, none⟩), .pointer (some ⟨w.heap.size, 0, none⟩), .int .u64 150] 123)).alloc (.cells #[.pointer (some ⟨10, 89, none⟩), .pointer (some ⟨w.heap.size, 0, none⟩), .int .u64 150] 123)) (by rw [World.cell?_alloc_lt _ _ ⟨w.heap.size, 0, none⟩ (by simp; omega)]; simp)
  have st := as_set25 t ⟨w.heap.size + 1 + 1 + 1, 0, none⟩ e old ((((w.alloc (.cells #[.pointer (some t)] 89)).alloc (.cells #[.pointer (some ⟨10, 89, none⟩), .pointer (some ⟨w.heap.size, 0, none⟩), .int .u64 150] 123)).alloc (.cells #[.pointer (some ⟨10, 89, none⟩), .pointer (some ⟨w.heap.size, 0, none⟩), .int .u64 150] 123)).alloc (.cells #[.int .i64 e] 64))
    (by rw [World.cell?_alloc_at _ _ _ _ (by simp)]; rfl)
    (by rw [World.cell?_alloc_lt _ _ t (by simp; omega), World.cell?_alloc_lt _ _ t (by simp; omega), World.cell?_alloc_lt _ _ t (by simp; omega), World.cell?_alloc_lt _ _ t htl]; exact ht0)
    (by rw [World.frozen?_alloc_old _ _ t (by simp; omega), World.frozen?_alloc_old _ _ t (by simp; omega), World.frozen?_alloc_old _ _ t (by simp; omega), World.frozen?_alloc_old _ _ t (Nat.ne_of_lt htl)]; exact hf0)
  go_enter Tryz.func31, Tryz.ntmps31
  go_wp2
  refine wp_loop_rounds 1 ?_
  rw [rounds_succ]
  go_wp2
  go_ret
  exact ⟨rfl, rfl⟩
end Go.Proofs.YtlgidjanmaijaaaGreatDoor

/- In place: a row is shrunk, appended to where there is room, cleared behind its end. For any program. -/
namespace Go.Proofs.YtlgidjanmaijaaaGreatDoor
set_option linter.all false
open Go.RowKit
section
variable {P : Program} {ops : Array Oper} {F : World → Prop} {QN : Act → World → Prop} {B : Nat} {w0 w : World} {L : List Item} {o : Oper} {rest : List Oper} {a : Act}
theorem ownsRow_shrink {e : TypeId} {size g n cap k : Nat} {xs : List Value} (h : w.ownsRow B e size (.slice (some ⟨g, 0, none⟩) n cap) n xs) (hk : k ≤ n) : w.ownsRow B e size (.slice (some ⟨g, 0, none⟩) k cap) k (xs.take (k * size)) := by
  obtain ⟨hl, h⟩ := h
  have hks : k * size ≤ n * size := Nat.mul_le_mul_right _ hk
  rcases h with ⟨hv, _⟩ | ⟨g', cap', cur, hv, hb, hg, hnc, hcm, hcs, ht⟩
  · cases hv
  · simp at hv
    obtain ⟨rfl, rfl⟩ := hv
    refine ⟨by rw [List.length_take, hl]; omega, .inr ⟨g, cap, cur, rfl, hb, hg, by omega, hcm, hcs, ?_⟩⟩
    rw [← ht, List.take_take, Nat.min_eq_left hks]
theorem Hp.blkRow {e : TypeId} {size g n : Nat} {cs : List Value} (h : Hp B w0 w (.blk g cs e :: L)) (hl : cs.length = n * size) (hm : n ≤ 140737488355328) : Hp B w0 w (.row e size (some ⟨g, 0, none⟩) n n cs :: L) := by
  refine h.turn ((Ext.refl w).grownBy none) (.inl rfl) ⟨hl, .inr ⟨g, n, cs.toArray, rfl, h.head.1, h.head.2, Nat.le_refl _, by unfold maxLen; omega, by simpa using hl, ?_⟩⟩ (.inl rfl)
  rw [← hl]; simp
theorem Hp.putPast {e : TypeId} {size g n cap : Nat} {xs : List Value} : ∀ (vs : List Value) (off : Nat) (w : World), Hp B w0 w (.row e size (some ⟨g, 0, none⟩) n cap xs :: L) → xs.length ≤ off → Hp B w0 (w.setCells g off vs) (.row e size (some ⟨g, 0, none⟩) n cap xs :: L)
  | [], _, _, h, _ => h
  | v :: vs, off, w, h, hx => by
    rw [World.setCells]
    refine Hp.putPast vs (off + 1) _ ?_ (by omega)
    have := h.putRow off v
    rwa [List.set_eq_of_length_le hx] at this
theorem row_room {e : TypeId} {size g n cap : Nat} {xs : List Value} (h : w.ownsRow B e size (.slice (some ⟨g, 0, none⟩) n cap) n xs) (j : Nat) (hj : j < cap * size) : (w.cell? ⟨g, j, none⟩).isSome = true ∧ w.frozen? ⟨g, j, none⟩ = false := by
  obtain ⟨hl, h⟩ := h
  rcases h with ⟨hv, _⟩ | ⟨g', cap', cur, hv, hb, hg, hnc, hcm, hcs, ht⟩
  · cases hv
  · simp at hv
    obtain ⟨rfl, rfl⟩ := hv
    have : j < cur.size := by omega
    simp [World.cell?, World.frozen?, hg, this]
theorem zeroCells_one (cs : Array Value) : (Builtin.zeroCells cs 1).toList = cs.toList := by
  unfold Builtin.zeroCells
  apply List.ext_getElem
  · simp
  · intro i h1 h2
    simp at h1 h2
    simp [Nat.mod_eq_of_lt h2, h2]
theorem run_clear_one (w : World) (t e ty : TypeId) (z : Value) (ht : P.underlying t = some (.slice e)) (hv : ∀ w, (zeroValue e).run P w = .ok z w) (h1 : ∀ u ∈ z.cells.toList, u.oneCell' = true) (b off c : Nat)
    (hc : ∀ j, j < z.cells.size → (w.cell? ⟨b, off + j, none⟩).isSome = true) (hf : ∀ j, j < z.cells.size → w.frozen? ⟨b, off + j, none⟩ = false) :
    (Builtin.clear_ #[t] ty #[.slice (some ⟨b, off, none⟩) 1 c]).run P w = .ok (.tuple #[]) (w.setCells b off z.cells.toList) := by
  have hst := run_storeCells_cells (P := P) b off z.cells.toList 0 w (by simpa using hc) (by simpa using hf) h1
  simp only [Nat.add_zero] at hst
  simp [Builtin.clear_, run_underlying ht, hv, zeroCells_one, hst]
theorem wpList_clear_hp {t e : TypeId} {size n cap g c : Nat} {z : Value} {xs : List Value} {Q : Exit → Act → World → Prop} (ht : P.underlying t = some (.slice e)) (hv : ∀ w, (zeroValue e).run P w = .ok z w) (hzs : z.cells.size = size) (h1 : ∀ u ∈ z.cells.toList, u.oneCell' = true) (hgd : o.guard = none) (x : Operand)
    (ho : o.op = .call { callee := .builtin .clear, args := #[x], argTypes := #[t] }) (h : Hp B w0 w (.row e size (some ⟨g, 0, none⟩) n cap xs :: L)) (hx : a.eval x = .slice (some ⟨g, n * size, none⟩) 1 c) (hcap : n + 1 ≤ cap)
    (k : ∀ w', Hp B w0 w' (.row e size (some ⟨g, 0, none⟩) n cap xs :: L) → wpList P ops Q rest (a.put o.dst (.tuple #[])) w') : wpList P ops Q (o :: rest) a w := by
  refine wpList_plain hgd fun K hK => ?_
  have hrow : w.ownsRow B e size (.slice (some ⟨g, 0, none⟩) n cap) n xs := h.head
  have e1 : (n + 1) * size ≤ cap * size := Nat.mul_le_mul_right _ hcap
  have e2 : (n + 1) * size = n * size + size := Nat.succ_mul n size
  have hr := run_clear_one (P := P) w t e o.type z ht hv h1 g (n * size) c (fun j hj => (row_room hrow _ (by omega)).1) (fun j hj => (row_room hrow _ (by omega)).2)
  unfold Oper.wp execOp
  simp only [ho, resolve, invoke, builtin, Sem.run_bind, Sem.run_pure, Result.andThen_ok, List.map_toArray, List.map_cons, List.map_nil, hx, hr]
  exact hK _ _ (k _ (Hp.putPast _ _ _ h (by rw [hrow.1]; exact Nat.le_refl _)))
/-- append in place: of the first k elements, where there is room -/
theorem Chain.appendSpare {t e : TypeId} {size bytes n m c cap k g : Nat} {xs news : List Value} (hE : Elem P t e size bytes) (hw : Region.wanted o (yielded ops a.tmps) = true) (s x : Operand)
    (ho : o.op = .call { callee := .builtin .append, args := #[s, x], argTypes := #[t, t] }) (hs : a.eval s = .slice (some ⟨g, 0, none⟩) k cap) (ad : Addr) (hx : a.eval x = .slice (some ad) m c) (hl : news.length = m * size) (hk : k ≤ n) (hroom : k + m ≤ cap)
    (hnews : ∀ w, Hp B w0 w (.row e size (some ⟨g, 0, none⟩) n cap xs :: L) → ∀ j u, news[j]? = some u → w.cell? (ad.add j) = some u) (h1 : ∀ u ∈ news, u.oneCell' = true)
    (hF : ∀ w, Hp B w0 w L → F w) (h : Chain P ops F QN rest (a.put o.dst (.slice (some ⟨g, 0, none⟩) (k + m : Nat) cap)) (fun W => Hp B w0 W (.row e size (some ⟨g, 0, none⟩) (k + m) cap (xs.take (k * size) ++ news) :: L))) :
    Chain P ops F QN (o :: rest) a (fun W => Hp B w0 W (.row e size (some ⟨g, 0, none⟩) n cap xs :: L)) := by
  refine .inl ⟨hw, fun w hS => ?_⟩
  obtain ⟨i, z, hi, hz, hsz, hby, hzs⟩ := hE.info
  obtain ⟨w', hr, hown, hg⟩ := run_append_own_spare (P := P) (w := w) B t o.type e i size hE.under hi hsz g k cap (xs.take (k * size)) (ownsRow_shrink hS.head hk) ad m c news hl (hnews w hS) h1 hroom
  unfold Oper.wp execOp
  simp only [ho, resolve, invoke, builtin, Sem.run_bind, Sem.run_pure, Result.andThen_ok, List.map_toArray, List.map_cons, List.map_nil, hs, hx, hr]
  exact ⟨_, hS.turn (y := .row e size (some ⟨g, 0, none⟩) (k + m) cap (xs.take (k * size) ++ news)) hg (.inr rfl) hown (.inl rfl), fun _ _ h hx => h.step hx, fun W hW => hF W hW.tail, h⟩
end
end Go.Proofs.YtlgidjanmaijaaaGreatDoor

/- room for elements to come: append(nil, make(n)) cut to nothing, under Hp. For any program. -/
namespace Go.Proofs.YtlgidjanmaijaaaGreatDoor
set_option linter.all false
open Go.RowKit
section
variable {P : Program} {ops : Array Oper} {B : Nat} {w0 w : World} {L : List Item} {o : Oper} {rest : List Oper} {a : Act}
theorem wpList_zeros_hp {t tn e : TypeId} {bytes n : Nat} {kn k : IntKind} (hE : Elem P t e 1 bytes) (htn : P.underlying tn = some (.int kn)) {Q : Exit → Act → World → Prop} (hgd : o.guard = none) (s x : Operand)
    (ho : o.op = .call { callee := .builtin .append, args := #[s, x], argTypes := #[t, tn] }) (h : Hp B w0 w L) (hs : a.eval s = .slice none 0 0) (hx : a.eval x = .int k n) (h0 : 0 < n) (hb : n * bytes ≤ 140737488355328) (hn : n ≤ 140737488355328)
    (kk : ∀ g cap w', n ≤ cap → Hp B w0 w' (.row e 1 (some ⟨g, 0, none⟩) 0 cap [] :: L) → wpList P ops Q rest (a.put o.dst (.slice (some ⟨g, 0, none⟩) n cap)) w') : wpList P ops Q (o :: rest) a w := by
  obtain ⟨i, z, hi, hz, hsz, hby, hzs⟩ := hE.info
  have hr := Go.Lib.run_append_nil_zeros (P := P) w t tn o.type e i z k kn hE.under htn hi hz n h0 (by rw [hsz]; decide) (by omega) (by rw [hby]; omega)
  have hge := grownCap_ge w n 0 e
  have hcm : grownCap w n 0 e ≤ maxLen := grownCap_le_maxLen w n 0 e (by unfold maxLen; omega)
  refine Go.Lib.wpList_append_run w hgd s x t tn ho _ _ hs hx _ _ hr (kk w.heap.size (grownCap w n 0 e) _ hge ?_)
  have hd := h.drew
  have hsd : w.drew.heap.size = w.heap.size := rfl
  refine (hd.old _).cons ?_ (hd.fresh rfl (by rw [hsd]; exact Nat.le_refl _))
  refine ⟨rfl, .inr ⟨w.heap.size, grownCap w n 0 e, Builtin.zeroCells z.cells n ++ Builtin.zeroCells z.cells (grownCap w n 0 e - n), rfl, ?_, ?_, Nat.zero_le _, hcm, ?_, by simp⟩⟩
  · rw [← hsd]
    exact hd.base
  · have := heap_alloc_new w.drew (.cells (Builtin.zeroCells z.cells n ++ Builtin.zeroCells z.cells (grownCap w n 0 e - n)) e)
    rw [hsd] at this
    exact this
  · simp only [Array.size_append, size_zeroCells, hzs, hsz]
    omega
end
end Go.Proofs.YtlgidjanmaijaaaGreatDoor
