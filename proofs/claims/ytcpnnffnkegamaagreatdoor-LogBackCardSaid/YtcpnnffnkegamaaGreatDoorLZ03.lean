/- Texts joined: As BraidZ: and operations from number z on wait for all quiet ones: they may turn what these read. For any program. As Braid2, where three operations may come next. For any program. In a drawn region: an operation that only computes may be taken first, wherever it stands. For any program. In a round of a range over a function, and in an iterator: regions and appends under Hp. For any program. A walk with things that are no cells (loops, what waits): what is made of cells lies as it lay. For any program. A range over an iterator that writes a box of its own between the rounds. For any program. -/
import Derived.Test.YtcpnnffnkegamaaGreatDoorLZ02
import Derived.Great.BuildSlice
import Derived.RangeFuncNested
import Derived.RangeFuncBound
import Derived.RangeFuncCalls
import Derived.RangeFuncLeaves
import Derived.Shelf.Abstract
import Derived.Shelf.RegionOpen
import Derived.WalkKit
import Derived.OwnWalkIn
import Derived.TacticsInMore
import Derived.LoopNIn
import Derived.LoopIn
import Derived.Laws.Tables
import Derived.RangeFuncBox
/- As BraidZ: and operations from number z on wait for all quiet ones: they may turn what these read. For any program. -/
namespace Go.Proofs.YtcpnnffnkegamaaGreatDoor
set_option linter.all false
open Go.RowKit
section
variable {P : Program} {ops : Array Oper} {F : World → Prop} {QN : Act → World → Prop} {z : Nat} {zc : Bool}

/-- the quiet ones wait for quiet ones alone -/
def braidZ (ops : Array Oper) (mk : Nat → Mark) (z : Nat) : Bool :=
  (List.range ops.size).all (fun i => !((mk i).isT && decide (z ≤ i)) || (List.range ops.size).all fun j => (mk j).isT || deps ops 6 i j) && (fixedOk ops && (List.range ops.size).all fun i => ((mk i).isQ || (mk i).isT) && (List.range ops.size).all fun j => (mk i).isT || !(waits ops i j && (mk j).isT))

/-- one operation, and what is to hold behind it -/
def ZStep (P : Program) (ops : Array Oper) (F : World → Prop) (zc : Bool) (K : Act → (World → Prop) → Prop) (o : Oper) (a : Act) (C : World → Prop) : Prop :=
    (Region.wanted o (yielded ops a.tmps) = true ∧ ∀ w, C w → o.wp P a w (fun a' w' => ∃ C' : World → Prop, C' w' ∧ (∀ w w', C' w → Ext w w' → C' w') ∧ (zc = true ∨ ∀ w, C' w → F w) ∧ K a' C') (fun _ _ _ => False)) ∨
    (Region.wanted o (yielded ops a.tmps) = false ∧ K (a.put o.dst undef) C)
/-- the walk over the operations whose numbers are in the list, in every order that is allowed -/
def BraidZ (P : Program) (ops : Array Oper) (F : World → Prop) (QN : Act → World → Prop) (z : Nat) : Nat → List Nat → Act → (World → Prop) → Prop
  | 0, rest, a, C => rest = [] ∧ ∀ w, C w → QN a w
  | f + 1, rest, a, C => (rest = [] → ∀ w, C w → QN a w) ∧ ∀ i ∈ rest, (∀ j ∈ rest, waits ops i j = false) → ∀ o, ops[i]? = some o → ZStep P ops F (decide (z ≤ i)) (BraidZ P ops F QN z f (rest.filter (· != i))) o a C
theorem BraidZ.fin {f : Nat} {a : Act} {C : World → Prop} (h : BraidZ P ops F QN z f [] a C) : ∀ w, C w → QN a w := by
  cases f with
  | zero => exact h.2
  | succ f => exact h.1 rfl
/-- the operations that may come next -/
def nextsZ (ops : Array Oper) (rest : List Nat) : List Nat := rest.filter fun i => rest.all fun j => !waits ops i j
theorem BraidZ.next {f : Nat} {rest nx : List Nat} {a : Act} {C : World → Prop} (hne : rest.isEmpty = false) (hx : nextsZ ops rest = nx) (h : ∀ i ∈ nx, ∀ o, ops[i]? = some o → ZStep P ops F (decide (z ≤ i)) (BraidZ P ops F QN z f (rest.filter (· != i))) o a C) : BraidZ P ops F QN z (f + 1) rest a C := by
  refine ⟨fun e => absurd hne (by rw [e]; decide), fun i hi hw o ho => h i ?_ o ho⟩
  rw [← hx]
  exact List.mem_filter.2 ⟨hi, List.all_eq_true.2 fun j hj => by rw [hw j hj]; rfl⟩
theorem BraidZ.next1 {f : Nat} {rest : List Nat} {a : Act} {C : World → Prop} {i : Nat} {o : Oper} (hne : rest.isEmpty = false) (hx : nextsZ ops rest = [i]) (ho : ops[i]? = some o) (h : ZStep P ops F (decide (z ≤ i)) (BraidZ P ops F QN z f (rest.filter (· != i))) o a C) : BraidZ P ops F QN z (f + 1) rest a C :=
  BraidZ.next hne hx fun k hk o' ho' => by
    obtain rfl : k = i := by simpa using hk
    obtain rfl : o = o' := Option.some.inj (ho.symm.trans ho')
    exact h
theorem BraidZ.next2 {f : Nat} {rest : List Nat} {a : Act} {C : World → Prop} {i j : Nat} {o p : Oper} (hne : rest.isEmpty = false) (hx : nextsZ ops rest = [i, j]) (ho : ops[i]? = some o) (hp : ops[j]? = some p) (h : ZStep P ops F (decide (z ≤ i)) (BraidZ P ops F QN z f (rest.filter (· != i))) o a C) (h2 : ZStep P ops F (decide (z ≤ j)) (BraidZ P ops F QN z f (rest.filter (· != j))) p a C) : BraidZ P ops F QN z (f + 1) rest a C :=
  BraidZ.next hne hx fun k hk o' ho' => by
    rcases (by simpa using hk : k = i ∨ k = j) with rfl | rfl
    · obtain rfl : o = o' := Option.some.inj (ho.symm.trans ho')
      exact h
    · obtain rfl : p = o' := Option.some.inj (hp.symm.trans ho')
      exact h2
theorem BraidZ.last {f : Nat} {rest : List Nat} {a : Act} {C : World → Prop} (hr : rest = []) (h : ∀ w, C w → QN a w) : BraidZ P ops F QN z f rest a C := by
  subst hr
  cases f with
  | zero => exact ⟨rfl, h⟩
  | succ f => exact ⟨fun _ => h, fun i hi => by cases hi⟩
theorem BraidZ.done {a : Act} {C : World → Prop} (h : ∀ w, C w → QN a w) : ∀ f, BraidZ P ops F QN z f [] a C
  | 0 => ⟨rfl, h⟩
  | f + 1 => ⟨fun _ => h, fun i hi => by cases hi⟩

theorem phaseZ {mk : Nat → Mark} {Q : Exit → Act → World → Prop} {a00 : Act} {vsQ : Nat → Value} (hok : braidZ ops mk z = true) (hQN : ∀ a w, QN a w → Q .normal a w)
    (hq : ∀ i o, ops[i]? = some o → (mk i).isT = false → (Region.wanted o (yielded ops (frameQ ops mk vsQ a00 i).tmps) = true ∧ StepOK P F o (frameQ ops mk vsQ a00 i) (vsQ i)) ∨ (Region.wanted o (yielded ops (frameQ ops mk vsQ a00 i).tmps) = false ∧ vsQ i = undef)) :
    ∀ (fuel : Nat) (listed : Array Bool) (vs : Nat → Value) (a0 : Act) (w : World) (rest : List Nat) (C : World → Prop) (f : Nat), a0.tmps = a00.tmps → listed.size = ops.size → ((List.range ops.size).filter fun j => !listed.getD j true).length ≤ fuel →
      (∀ i j, listed.getD i false = true → waits ops i j = true → listed.getD j false = true) →
      (∀ i, (mk i).isT = false → vs i = vsQ i) →
      rest = (List.range ops.size).filter (fun i => (mk i).isT && !listed.getD i false) → C w → (∀ w w', C w → Ext w w' → C w') → ((∀ w, C w → F w) ∨ ∀ j, j < ops.size → (mk j).isT = false → listed.getD j false = true) →
      BraidZ P ops F QN z f rest (frameOf ops vs (fun j => !(mk j).isT || listed.getD j false) a0 ops.size) C →
      wpAny P .any ops Q fuel listed (frameOf ops vs (fun j => listed.getD j false) a0 ops.size) w := by
  simp only [braidZ, Bool.and_eq_true] at hok
  obtain ⟨hzz, hfx, hch⟩ := hok
  have hzd : ∀ i j, i < ops.size → j < ops.size → (mk i).isT = true → z ≤ i → (mk j).isT = false → deps ops 6 i j = true := fun i j hi hj hT hz hTj => by
    have h := List.all_eq_true.1 hzz i (by simpa using hi)
    rw [hT, decide_eq_true hz, Bool.and_self, Bool.not_true, Bool.false_or] at h
    have h2 := List.all_eq_true.1 h j (by simpa using hj)
    rwa [hTj, Bool.false_or] at h2
  have hd : dstApart ops = true := by simp only [fixedOk, Bool.and_eq_true] at hfx; exact hfx.1
  have hl : looksOk ops = true := by simp only [fixedOk, Bool.and_eq_true] at hfx; exact hfx.2
  rw [List.all_eq_true] at hch
  have hquiet : ∀ i j, (mk i).isT = false → waits ops i j = true → (mk j).isT = false := fun i j hT hw => by
    have hi := waits_lt hw
    have h := hch i (by simpa using hi)
    rw [Bool.and_eq_true] at h
    have h2 := List.all_eq_true.1 h.2 j (by simpa using Nat.lt_trans (waits_on hl hw) hi)
    rw [hT, hw] at h2
    simpa using h2
  have hQT : ∀ i, i < ops.size → (mk i).isQ = !(mk i).isT := fun i hi => by
    have h := hch i (by simpa using hi)
    rw [Bool.and_eq_true] at h
    rcases (mk i).trio with ⟨a, b, c⟩ | ⟨a, b, c⟩ | ⟨a, b, c⟩ <;> simp [a, c] at h ⊢
  have fin : ∀ (listed : Array Bool) (vs : Nat → Value) (a0 : Act) (w : World) (rest : List Nat) (C : World → Prop) (f : Nat), listed.size = ops.size → rest = (List.range ops.size).filter (fun i => (mk i).isT && !listed.getD i false) → C w →
      BraidZ P ops F QN z f rest (frameOf ops vs (fun j => !(mk j).isT || listed.getD j false) a0 ops.size) C → Region.ready .any ops listed = [] → Q .normal (frameOf ops vs (fun j => listed.getD j false) a0 ops.size) w := by
    intro listed vs a0 w rest C f hs hrest hC hw hr
    have hall := all_listed hl hs hr
    have : rest = [] := by
      rw [hrest, List.filter_eq_nil_iff]
      intro i hi
      simp [hall i (by simpa using hi)]
    subst this
    rw [frame_congr (M := fun j => !(mk j).isT || listed.getD j false) ops.size (fun j hj => by simp [hall j hj])]
    exact hQN _ _ (hw.fin w hC)
  intro fuel
  induction fuel with
  | zero =>
    intro listed vs a0 w rest C f _ hs hn _ _ hrest hC _ _ hw
    have hr : Region.ready .any ops listed = [] := by
      rw [List.eq_nil_iff_forall_not_mem]
      intro i hi
      obtain ⟨h0, o, ho, _⟩ := mem_ready.1 hi
      have : i ∈ (List.range ops.size).filter fun j => !listed.getD j true := List.mem_filter.2 ⟨by simpa using (Array.getElem?_eq_some_iff.1 ho).1, by simp [h0]⟩
      rw [List.eq_nil_of_length_eq_zero (Nat.le_zero.1 hn)] at this
      cases this
    exact ⟨hr, fin listed vs a0 w rest C f hs hrest hC hw hr⟩
  | succ fuel ih =>
    intro listed vs a0 w rest C f h00 hs hn hcld hvs hrest hC hCx hCF hw
    refine ⟨fin listed vs a0 w rest C f hs hrest hC hw, fun i hi => ?_⟩
    obtain ⟨h0, o, ho, hall⟩ := mem_ready.1 hi
    have hi' : i < ops.size := (Array.getElem?_eq_some_iff.1 ho).1
    have hsi : i < listed.size := by omega
    have hLi : listed.getD i false = false := by simpa [Array.getD_eq_getD_getElem?, hsi] using h0
    have hwl : ∀ j, waits ops i j = true → listed.getD j false = true := fun j hj => by
      obtain ⟨e, he, hb, rfl⟩ := (waits_spec ho).1 hj
      exact hall e he hb
    have hlw : ∀ j, waits ops j i = true → listed.getD j false = false := fun j hj => by
      cases hb : listed.getD j false with
      | false => rfl
      | true => rw [hcld j i hb hj] at hLi; cases hLi
    have hset := set_getD hsi
    cases hT : (mk i).isT with
    | false =>
      have hput : (ops[i]?).bind (·.dst) = o.dst := by rw [ho]; rfl
      have hwQ : vs i = vsQ i := hvs i hT
      replace hCF : ∀ w, C w → F w := hCF.resolve_right fun h => by rw [h i hi' hT] at hLi; cases hLi
      refine wpOp_fixed (b := frameQ ops mk vsQ a00 i) (v := vsQ i) ho (sel_of hl ho) ?_ (hCF w hC) (hq i o ho hT) ?_
      · intro t ht
        unfold frameQ
        refine frames_agree2 hd hl h00 ho (fun j hj hw => ⟨hwl j hw, ?_, ?_⟩) (fun j hj hw => ⟨hlw j hw, by simp; omega⟩) ht
        · simp [hj, hQT j (Nat.lt_trans hj hi'), hquiet i j hT hw]
        · exact hvs j (hquiet i j hT hw)
      · intro w' hx
        have hmore := frame_more hd (vs := vs) (L := fun j => listed.getD j false) (a0 := a0) hLi ops.size hi'
        rw [hput, hwQ] at hmore
        rw [← hmore, frame_congr (M := fun j => (listed.setIfInBounds i true).getD j false) ops.size (fun j _ => (hset j).symm)]
        refine ih _ vs a0 w' rest C f h00 (by simpa using hs) (set_count hsi hi' h0 hn) (set_closed hsi ho hall hcld) hvs ?_ (hCx w w' hC hx) hCx (.inl hCF) ?_
        · rw [hrest]
          refine List.filter_congr fun j _ => ?_
          rw [hset]
          by_cases e : j = i
          · subst e; simp [hT]
          · have : (j == i) = false := by simpa using e
            rw [this, Bool.false_or]
        · rw [frame_congr (M := fun j => !(mk j).isT || listed.getD j false) ops.size (fun j _ => by
            rw [hset]
            by_cases e : j = i
            · subst e; simp [hT]
            · have : (j == i) = false := by simpa using e
              rw [this, Bool.false_or])]
          exact hw
    | true =>
      have hput : (ops[i]?).bind (·.dst) = o.dst := by rw [ho]; rfl
      have hnQ : ∀ j, (mk j).isT = false → j ≠ i := fun j hj e => by subst e; rw [hT] at hj; cases hj
      have hmem : i ∈ rest := by rw [hrest]; exact List.mem_filter.2 ⟨by simpa using hi', by simp [hT, hLi]⟩
      have hnw : ∀ j ∈ rest, waits ops i j = false := fun j hj => by
        rw [hrest] at hj
        have hj2 := (List.mem_filter.1 hj).2
        simp only [Bool.and_eq_true, Bool.not_eq_true'] at hj2
        cases hw2 : waits ops i j with
        | false => rfl
        | true => rw [hwl j hw2] at hj2; cases hj2.2
      have hrest2 : rest.filter (· != i) = (List.range ops.size).filter (fun j => (mk j).isT && !(listed.setIfInBounds i true).getD j false) := by
        rw [hrest, List.filter_filter]
        refine List.filter_congr fun j _ => ?_
        rw [hset]
        by_cases e : j = i
        · subst e; simp
        · have : (j == i) = false := by simpa using e
          have h' : (j != i) = true := by simpa using e
          rw [this, h', Bool.false_or, Bool.true_and]
      obtain ⟨f, rfl⟩ : ∃ f', f = f' + 1 := by
        cases f with
        | zero => have h0 := hw.1; rw [h0] at hmem; cases hmem
        | succ f => exact ⟨f, rfl⟩
      have hw := hw.2 i hmem hnw o ho
      rw [hrest2] at hw
      have hLf : ∀ j, (!(mk j).isT || (listed.setIfInBounds i true).getD j false) = (j == i || (!(mk j).isT || listed.getD j false)) := fun j => by
        rw [hset]
        by_cases e : j = i
        · subst e; simp
        · have : (j == i) = false := by simpa using e
          rw [this]; simp
      have hgo : ∀ (v : Value) (w' : World) (ds : List Deferred) (C' : World → Prop), C' w' → (∀ w w', C' w → Ext w w' → C' w') → ((∀ w, C' w → F w) ∨ ∀ j, j < ops.size → (mk j).isT = false → (listed.setIfInBounds i true).getD j false = true) → BraidZ P ops F QN z f (List.filter (fun j => (mk j).isT && !(listed.setIfInBounds i true).getD j false) (List.range ops.size)) ((frameOf ops vs (fun j => !(mk j).isT || listed.getD j false) { a0 with defers := ds } ops.size).put o.dst v) C' →
          wpAny P .any ops Q fuel (listed.setIfInBounds i true) ((frameOf ops vs (fun j => listed.getD j false) { a0 with defers := ds } ops.size).put o.dst v) w' := by
        intro v w' ds C' hC' hCx' hCF' hw'
        obtain ⟨us, hus⟩ : ∃ us : Nat → Value, us = fun j => if j = i then v else vs j := ⟨_, rfl⟩
        have hui : us i = v := by rw [hus]; simp
        have huo : ∀ j, j ≠ i → us j = vs j := fun j hj => by rw [hus]; simp [hj]
        have m1 := frame_more hd (vs := us) (L := fun j => listed.getD j false) (a0 := { a0 with defers := ds }) hLi ops.size hi'
        have m2 := frame_more hd (vs := us) (L := fun j => !(mk j).isT || listed.getD j false) (a0 := { a0 with defers := ds }) (i := i) (by rw [hT, hLi]; rfl) ops.size hi'
        rw [hput, hui, frame_vsL (us := vs) (L := fun j => listed.getD j false) (fun j hj => huo j (fun e => by have hj : listed.getD j false = true := hj; rw [e, hLi] at hj; cases hj))] at m1
        rw [hput, hui, frame_vsL (us := vs) (L := fun j => !(mk j).isT || listed.getD j false) (fun j hj => huo j (fun e => by have hj : (!(mk j).isT || listed.getD j false) = true := hj; rw [e, hT, hLi] at hj; cases hj))] at m2
        rw [← m1, frame_congr (M := fun j => (listed.setIfInBounds i true).getD j false) ops.size (fun j _ => (hset j).symm)]
        rw [← m2, frame_congr (M := fun j => !(mk j).isT || (listed.setIfInBounds i true).getD j false) ops.size (fun j _ => (hLf j).symm)] at hw'
        exact ih _ us { a0 with defers := ds } w' _ C' f h00 (by simpa using hs) (set_count hsi hi' h0 hn) (set_closed hsi ho hall hcld)
          (fun j hj => by rw [huo j (hnQ j hj)]; exact hvs j hj) rfl hC' hCx' hCF' hw'
      have hab : ∀ t ∈ o.looksAt ops, (frameOf ops vs (fun j => listed.getD j false) a0 ops.size).tmps[t]? = (frameOf ops vs (fun j => !(mk j).isT || listed.getD j false) a0 ops.size).tmps[t]? := fun t ht =>
        frames_agree2 hd hl rfl ho (fun j hj hw => ⟨hwl j hw, by simp [hwl j hw], rfl⟩) (fun j hj hw => ⟨hlw j hw, by
          cases hTj : (mk j).isT with
          | true => simp [hlw j hw]
          | false =>
            have := hquiet j i hTj hw
            rw [hT] at this; cases this⟩) ht
      have e0 : ∀ (L : Nat → Bool) (ds : List Deferred), ({ frameOf ops vs L a0 ops.size with defers := ds } : Act) = frameOf ops vs L { a0 with defers := ds } ops.size := fun L ds => (frame_defers ops.size).symm
      have e1 : ∀ (L : Nat → Bool), (frameOf ops vs L a0 ops.size).defers = a0.defers := fun L => (frame_size ops.size).2
      have hzc : ∀ C' : World → Prop, (decide (z ≤ i) = true ∨ ∀ w, C' w → F w) → ((∀ w, C' w → F w) ∨ ∀ j, j < ops.size → (mk j).isT = false → (listed.setIfInBounds i true).getD j false = true) := fun C' h => h.elim (fun hz => .inr fun j hj hTj => by rw [hset, deps_closed hcld 6 i j hwl (hzd i j hi' hj hT (of_decide_eq_true hz) hTj), Bool.or_true]) .inl
      unfold wpOp
      simp only [ho]
      rw [wanted_agree hab]
      rcases hw with ⟨hwt, hw⟩ | ⟨hwt, hw⟩
      · rw [if_pos hwt]
        refine .inl (wp_transfer (exec_agree hl ho hab) (fun _ _ _ h => h.elim) (fun v w' h => ?_) (fun d w' h => ?_) (hw w hC))
        · obtain ⟨C', h1, h2, h3, h4⟩ := h
          exact hgo v w' a0.defers C' h1 h2 (hzc C' h3) h4
        · rw [e0, e1] at h ⊢
          obtain ⟨C', h1, h2, h3, h4⟩ := h
          exact hgo undef w' _ C' h1 h2 (hzc C' h3) h4
      · rw [if_neg (by rw [hwt]; simp)]
        exact hgo undef w a0.defers C hC hCx (hCF.imp id fun h j hj hTj => by rw [hset, h j hj hTj, Bool.or_true]) hw

/-- the numbers of the marked operations -/
def braidsOf (ms : List Mark) : List Nat := (List.range ms.length).filter fun i => (mkOf ms i).isT
/-- **A region of quiet operations and of others**, whatever order is drawn. -/
theorem any_region_braidz {a : Act} {w : World} {C : World → Prop} {Q : Exit → Act → World → Prop} {l : List Oper} {QN : Act → World → Prop} (ms : List Mark) (z : Nat) (F : World → Prop) (hQN : ∀ a w, QN a w → Q .normal a w) (hlen : l.length = ms.length) (hok : braidZ l.toArray (mkOf ms) z = true)
    (hC : C w) (hCx : ∀ w w', C w → Ext w w' → C w') (hCF : ∀ w, C w → F w)
    (h : Walk P l.toArray F (fun a' => BraidZ P l.toArray F QN z (braidsOf ms).length (braidsOf ms) a' C) ms l a) : wpAny P .any l.toArray Q l.toArray.size (Array.replicate l.toArray.size false) a w.drew := by
  have hok' := hok
  simp only [braidZ, Bool.and_eq_true] at hok'
  have hd : dstApart l.toArray = true := by have := hok'.2.1; simp only [fixedOk, Bool.and_eq_true] at this; exact this.1
  have hmk : ∀ j m, ms[j]? = some m → m = mkOf ms j := fun j m hj => by simp [mkOf, hj]
  have h0 : ∀ vs : Nat → Value, frameOf l.toArray vs (fun _ => false) a l.toArray.size = a := fun vs => by
    generalize l.toArray.size = n
    induction n with
    | zero => rfl
    | succ n ih => unfold frameOf; simpa using ih
  obtain ⟨vsQ, _, hK, hst⟩ := Walk.values (mk := mkOf ms) hd (a0 := a) l ms 0 (fun _ => undef) (by simp) (by simp) (fun j m hj => by rw [Nat.zero_add]; exact hmk j m hj) (by
    have : frameQ l.toArray (mkOf ms) (fun _ => undef) a 0 = a := by
      unfold frameQ
      rw [frame_congr (M := fun _ => false) _ (fun j _ => by simp)]
      exact h0 _
    rw [this]; exact h)
  have hq : ∀ i o, l.toArray[i]? = some o → (mkOf ms i).isT = false → (Region.wanted o (yielded l.toArray (frameQ l.toArray (mkOf ms) vsQ a i).tmps) = true ∧ StepOK P F o (frameQ l.toArray (mkOf ms) vsQ a i) (vsQ i)) ∨ (Region.wanted o (yielded l.toArray (frameQ l.toArray (mkOf ms) vsQ a i).tmps) = false ∧ vsQ i = undef) := by
    intro i o ho hT
    have hi : i < l.toArray.size := (Array.getElem?_eq_some_iff.1 ho).1
    have hh := List.all_eq_true.1 hok'.2.2 i (by simpa using hi)
    rw [Bool.and_eq_true] at hh
    have := hst i o (Nat.zero_le _) ho
    cases hmi : mkOf ms i with
    | q => rw [hmi] at this; exact this
    | p =>
      rw [hmi] at this
      rcases this with ⟨h1, h2⟩ | h
      · exact .inl ⟨h1, .inl fun w _ => h2 w⟩
      · exact .inr h
    | a cs t => rw [hmi] at hh; simp [Mark.isQ, Mark.isT] at hh
    | t => rw [hmi] at hT; cases hT
  have key := phaseZ (P := P) (F := F) (QN := QN) (mk := mkOf ms) (Q := Q) (a00 := a) (vsQ := vsQ) hok hQN hq l.toArray.size (Array.replicate l.toArray.size false) vsQ a w.drew ((List.range l.toArray.size).filter (fun i => (mkOf ms i).isT)) C (braidsOf ms).length rfl (by simp) (by
      have := List.length_filter_le (fun j => !(Array.replicate l.toArray.size false).getD j true) (List.range l.toArray.size)
      simpa using this) (fun i j hi => by rw [repl_false] at hi; cases hi) (fun _ _ => rfl) (List.filter_congr fun j _ => by rw [repl_false]; simp) (hCx w w.drew hC ((Ext.refl w).drew)) hCx (.inl hCF) ?_
  · rw [frame_congr (M := fun _ => false) l.toArray.size (fun j hj => repl_false _ _), h0] at key
    exact key
  · have e1 : frameQ l.toArray (mkOf ms) vsQ a l.toArray.size = frameOf l.toArray vsQ (fun j => !(mkOf ms j).isT || (Array.replicate l.toArray.size false).getD j false) a l.toArray.size := by
      unfold frameQ
      refine frame_congr _ fun j hj => ?_
      have hh := List.all_eq_true.1 hok'.2.2 j (by simpa using hj)
      rw [Bool.and_eq_true] at hh
      rw [repl_false, show decide (j < l.toArray.size) = true by simpa using hj]
      rcases (mkOf ms j).trio with ⟨a, b, c⟩ | ⟨a, b, c⟩ | ⟨a, b, c⟩ <;> simp [a, c] at hh ⊢
    rw [← e1]
    have e2 : (List.range l.toArray.size).filter (fun i => (mkOf ms i).isT) = braidsOf ms := by unfold braidsOf; rw [show l.toArray.size = ms.length by simp [hlen]]
    rw [e2]
    exact hK
theorem wp_region_braidz {a : Act} {w : World} {C : World → Prop} {Q : Exit → Act → World → Prop} {id : Nat} {l : List Oper} (ms : List Mark) (z : Nat) (F : World → Prop) (hm : P.follows .mixedOrders = true) (hlen : l.length = ms.length) (hok : braidZ l.toArray (mkOf ms) z = true)
    (hC : C w) (hCx : ∀ w w', C w → Ext w w' → C w') (hCF : ∀ w, C w → F w)
    (h : Walk P l.toArray F (fun a' => BraidZ P l.toArray F (fun a w => Q .normal a w) z (braidsOf ms).length (braidsOf ms) a' C) ms l a) : (Code.region id l.toArray true).wp P Q a w :=
  wp_region_any hm (any_region_braidz ms z F (fun _ _ h => h) hlen hok hC hCx hCF h)

variable {B : Nat} {w0 : World} {L : List Item} {o : Oper} {a : Act} {K : Act → (World → Prop) → Prop}
theorem ZStep.skip (hw : Region.wanted o (yielded ops a.tmps) = false) (h : K (a.put o.dst undef) (fun W => Hp B w0 W L)) : ZStep P ops F zc K o a (fun W => Hp B w0 W L) := .inr ⟨hw, h⟩
/-- an operation that only computes or reads -/
theorem ZStep.val {v : Value} (hw : Region.wanted o (yielded ops a.tmps) = true) (hF : ∀ w, Hp B w0 w L → F w) (hr : ∀ w, Hp B w0 w L → (execOp a.eval o).run P w = .ok (.value v) w)
    (h : K (a.put o.dst v) (fun W => Hp B w0 W L)) : ZStep P ops F zc K o a (fun W => Hp B w0 W L) := by
  refine .inl ⟨hw, fun w hS => ?_⟩
  unfold Oper.wp
  rw [hr w hS]
  exact ⟨_, hS, fun _ _ h hx => h.step hx, .inr hF, h⟩
/-- an operation that makes a block -/
theorem ZStep.alloc {cs : List Value} {t : TypeId} {f : Nat → Value} (hw : Region.wanted o (yielded ops a.tmps) = true) (hF : ∀ w, Hp B w0 w L → F w) (hr : ∀ w, Hp B w0 w L → (execOp a.eval o).run P w = .ok (.value (f w.heap.size)) (w.alloc (.cells cs.toArray t)))
    (h : ∀ g, K (a.put o.dst (f g)) (fun W => Hp B w0 W (.blk g cs t :: L))) : ZStep P ops F zc K o a (fun W => Hp B w0 W L) := by
  refine .inl ⟨hw, fun w hS => ?_⟩
  unfold Oper.wp
  rw [hr w hS]
  exact ⟨fun W => Hp B w0 W (.blk w.heap.size cs t :: L), hS.alloc cs t, fun _ _ h hx => h.step hx, .inr fun W hW => hF W hW.tail, h _⟩
/-- a call -/
theorem ZStep.call {f : FuncId} {args : Array Value} (hw : Region.wanted o (yielded ops a.tmps) = true) (hr : ∀ w, Hp B w0 w L → (execOp a.eval o).run P w = .ok (.enter f args) w)
    (hc : ∀ w, Hp B w0 w L → Calls P f args w fun e w' => ∃ (v : Value) (L' : List Item), e = .returned v ∧ Hp B w0 w' L' ∧ (∀ w, Hp B w0 w L' → F w) ∧ K (a.put o.dst v) (fun W => Hp B w0 W L')) :
    ZStep P ops F zc K o a (fun W => Hp B w0 W L) := by
  refine .inl ⟨hw, fun w hS => ?_⟩
  unfold Oper.wp
  rw [hr w hS]
  refine (hc w hS).mono fun e w' ⟨v, L', h1, h2, h3, h4⟩ => ?_
  subst h1
  exact ⟨_, h2, fun _ _ h hx => h.step hx, .inr h3, h4⟩
/-- append of elements that lie at ad -/
theorem ZStep.append {t e : TypeId} {size bytes n m c cap : Nat} {A : Option Addr} {xs news : List Value} {L0 : List Item} (hE : Elem P t e size bytes) (hw : Region.wanted o (yielded ops a.tmps) = true) (s x : Operand)
    (ho : o.op = .call { callee := .builtin .append, args := #[s, x], argTypes := #[t, t] }) (i : Nat) (hi : L[i]? = some (.row e size A n cap xs)) (hL0 : L.eraseIdx i = L0) (hs : a.eval s = .slice A n cap) (ad : Addr) (hx : a.eval x = .slice (some ad) m c) (hl : news.length = m * size)
    (hnews : ∀ w, Hp B w0 w L → ∀ j u, news[j]? = some u → w.cell? (ad.add j) = some u) (h1 : ∀ u ∈ news, u.oneCell' = true) (hn : (n + m) * bytes ≤ 140737488355328) (hm : n + m ≤ 140737488355328)
    (hF : ∀ w, Hp B w0 w L0 → F w) (h : ∀ A' cap', K (a.put o.dst (.slice A' (n + m : Nat) cap')) (fun W => Hp B w0 W (.row e size A' (n + m) cap' (xs ++ news) :: L0))) :
    ZStep P ops F zc K o a (fun W => Hp B w0 W L) := by
  subst hL0
  refine .inl ⟨hw, fun w hS => ?_⟩
  obtain ⟨A', cap', w', hr, h2⟩ := run_append_hp (P := P) (c := c) (ty := o.type) hE (hS.front i hi) ad hl (hnews w hS) h1 hn hm
  unfold Oper.wp execOp
  simp only [ho, resolve, invoke, builtin, Sem.run_bind, Sem.run_pure, Result.andThen_ok, List.map_toArray, List.map_cons, List.map_nil, hs, hx, hr]
  exact ⟨_, h2, fun _ _ h hx => h.step hx, .inr fun W hW => hF W hW.tail, h A' cap'⟩
/-- a store that leaves what the quiet ones read -/
theorem ZStep.turnF {L' : List Item} (hw : Region.wanted o (yielded ops a.tmps) = true) (hr : ∀ w, Hp B w0 w L → ∃ w', ((execOp a.eval o).run P w = .ok .skip w' ∨ (execOp a.eval o).run P w = .ok (.value undef) w') ∧ Hp B w0 w' L')
    (hF : ∀ w, Hp B w0 w L' → F w) (h : K (a.put o.dst undef) (fun W => Hp B w0 W L')) : ZStep P ops F zc K o a (fun W => Hp B w0 W L) := by
  refine .inl ⟨hw, fun w hS => ?_⟩
  obtain ⟨w', hrun, h2⟩ := hr w hS
  unfold Oper.wp
  rcases hrun with hrun | hrun <;> rw [hrun] <;> exact ⟨_, h2, fun _ _ h hx => h.step hx, .inr hF, h⟩
/-- a store, behind all quiet ones -/
theorem ZStep.turn {L' : List Item} (hw : Region.wanted o (yielded ops a.tmps) = true) (hr : ∀ w, Hp B w0 w L → ∃ w', ((execOp a.eval o).run P w = .ok .skip w' ∨ (execOp a.eval o).run P w = .ok (.value undef) w') ∧ Hp B w0 w' L')
    (h : K (a.put o.dst undef) (fun W => Hp B w0 W L')) : ZStep P ops F true K o a (fun W => Hp B w0 W L) := by
  refine .inl ⟨hw, fun w hS => ?_⟩
  obtain ⟨w', hrun, h2⟩ := hr w hS
  unfold Oper.wp
  rcases hrun with hrun | hrun <;> rw [hrun] <;> exact ⟨_, h2, fun _ _ h hx => h.step hx, .inl rfl, h⟩
/-- an operation that only computes or reads, behind all quiet ones -/
theorem ZStep.valz {v : Value} (hw : Region.wanted o (yielded ops a.tmps) = true) (hr : ∀ w, Hp B w0 w L → (execOp a.eval o).run P w = .ok (.value v) w)
    (h : K (a.put o.dst v) (fun W => Hp B w0 W L)) : ZStep P ops F true K o a (fun W => Hp B w0 W L) := by
  refine .inl ⟨hw, fun w hS => ?_⟩
  unfold Oper.wp
  rw [hr w hS]
  exact ⟨_, hS, fun _ _ h hx => h.step hx, .inl rfl, h⟩
theorem wp_region_braidz_hp {a : Act} {w : World} {Q : Exit → Act → World → Prop} {id : Nat} {l : List Oper} (ms : List Mark) (z : Nat) (LF : List Item) (hm : P.follows .mixedOrders = true) (hlen : l.length = ms.length) (hok : braidZ l.toArray (mkOf ms) z = true)
    (hS : Hp B w0 w L) (hLF : ∀ w, Hp B w0 w L → Hp B w0 w LF)
    (h : Walk P l.toArray (fun W => Hp B w0 W LF) (fun a' => BraidZ P l.toArray (fun W => Hp B w0 W LF) (fun a w => Q .normal a w) z (braidsOf ms).length (braidsOf ms) a' (fun W => Hp B w0 W L)) ms l a) : (Code.region id l.toArray true).wp P Q a w :=
  wp_region_braidz ms z (fun W => Hp B w0 W LF) hm hlen hok hS (fun _ _ h hx => h.step hx) hLF h
end
end Go.Proofs.YtcpnnffnkegamaaGreatDoor

/- As Braid2, where three operations may come next. For any program. -/
namespace Go.Proofs.YtcpnnffnkegamaaGreatDoor
set_option linter.all false
open Go.RowKit
section
variable {P : Program} {ops : Array Oper} {F : World → Prop} {QN : Act → World → Prop} {z : Nat} {zc : Bool}
end
end Go.Proofs.YtcpnnffnkegamaaGreatDoor

/- In a drawn region: an operation that only computes may be taken first, wherever it stands. For any program. -/
namespace Go.Proofs.YtcpnnffnkegamaaGreatDoor
set_option linter.all false
open Go.RowKit
section
variable {P : Program} {ops : Array Oper} {F : World → Prop} {QN : Act → World → Prop} {z : Nat}
theorem put_look {a : Act} {d : Option Tmp} {u : Value} {t : Tmp} (h : d ≠ some t) : (a.put d u).tmps[t]? = a.tmps[t]? := by
  cases d with
  | none => rfl
  | some d =>
    show (a.tmps.setIfInBounds d u)[t]? = _
    rw [Array.getElem?_setIfInBounds_ne (by intro e; exact h (by rw [e]))]
theorem put_comm {a : Act} {d e : Option Tmp} {u v : Value} (h : e = none ∨ e ≠ d) : (a.put d u).put e v = (a.put e v).put d u := by
  cases d with
  | none => cases e <;> rfl
  | some d =>
    cases e with
    | none => rfl
    | some e =>
      have hne : d ≠ e := fun x => (h.resolve_left (by simp)) (by rw [x])
      show ({ a with tmps := (a.tmps.setIfInBounds d u).setIfInBounds e v } : Act) = { a with tmps := (a.tmps.setIfInBounds e v).setIfInBounds d u }
      rw [Array.setIfInBounds_comm _ _ hne]
theorem put_def {a : Act} {d : Option Tmp} {u : Value} {ds : List Deferred} : ({ (a.put d u) with defers := ds } : Act) = ({ a with defers := ds } : Act).put d u := by cases d <;> rfl
/-- an operation that neither looks at what the others make nor is looked at -/
def earlyOk (ops : Array Oper) (i : Nat) (rest : List Nat) : Bool := match ops[i]? with
  | none => false
  | some o => rest.all fun k => k == i || waits ops k i || (match ops[k]? with
    | none => true
    | some p => (p.looksAt ops).all (fun t => o.dst != some t) && (o.looksAt ops).all (fun t => p.dst != some t) && (p.dst == none || p.dst != o.dst))
theorem earlyOk_spec {i k : Nat} {rest : List Nat} {o p : Oper} (h : earlyOk ops i rest = true) (ho : ops[i]? = some o) (hk : k ∈ rest) (hki : k ≠ i) (hw : waits ops k i = false) (hp : ops[k]? = some p) :
    (∀ t ∈ p.looksAt ops, o.dst ≠ some t) ∧ (∀ t ∈ o.looksAt ops, p.dst ≠ some t) ∧ (p.dst = none ∨ p.dst ≠ o.dst) := by
  unfold earlyOk at h
  rw [ho] at h
  simp only at h
  have h1 := List.all_eq_true.1 h k hk
  rw [hw, hp, beq_false_of_ne hki, Bool.false_or, Bool.false_or] at h1
  simp only [Bool.and_eq_true, Bool.or_eq_true, List.all_eq_true, bne_iff_ne, beq_iff_eq] at h1
  exact ⟨h1.1.1, h1.1.2, h1.2⟩
theorem earlyOk_sub {i : Nat} {rest rest' : List Nat} (h : earlyOk ops i rest = true) (hs : ∀ k ∈ rest', k ∈ rest) : earlyOk ops i rest' = true := by
  unfold earlyOk at *
  split
  · rename_i e; rw [e] at h; cases h
  · rename_i o e
    rw [e] at h
    exact List.all_eq_true.2 fun k hk => List.all_eq_true.1 h k (hs k hk)
theorem BraidZ.early (hl : looksOk ops = true) {i : Nat} {o : Oper} {v : Value} (ho : ops[i]? = some o) (hzi : z ≤ i) : ∀ (f : Nat) (rest : List Nat) (a : Act) (C : World → Prop), i ∈ rest → earlyOk ops i rest = true →
    ((Region.wanted o (yielded ops a.tmps) = true ∧ PureOK P o a v) ∨ (Region.wanted o (yielded ops a.tmps) = false ∧ v = undef)) → (∀ w w', C w → Ext w w' → C w') →
    BraidZ P ops F QN z f (rest.filter (· != i)) (a.put o.dst v) C → BraidZ P ops F QN z (f + 1) rest a C := by
  intro f
  induction f with
  | zero =>
    intro rest a C hi hok hv hC h
    refine ⟨fun e => (by rw [e] at hi; cases hi), fun k hk hw p hp => ?_⟩
    have hki : k = i := by
      by_cases e : k = i
      · exact e
      · exfalso
        have : k ∈ rest.filter (· != i) := List.mem_filter.2 ⟨hk, by simpa using e⟩
        rw [h.1] at this
        cases this
    subst hki
    obtain rfl : o = p := Option.some.inj (ho.symm.trans hp)
    rcases hv with ⟨h1, h2⟩ | ⟨h1, rfl⟩
    · refine .inl ⟨h1, fun w hw => ?_⟩
      unfold Oper.wp
      rw [h2 w]
      exact ⟨C, hw, hC, .inl (decide_eq_true hzi), h⟩
    · exact .inr ⟨h1, h⟩
  | succ f ih =>
    intro rest a C hi hok hv hC h
    refine ⟨fun e => (by rw [e] at hi; cases hi), fun k hk hw p hp => ?_⟩
    by_cases hki : k = i
    · subst hki
      obtain rfl : o = p := Option.some.inj (ho.symm.trans hp)
      rcases hv with ⟨h1, h2⟩ | ⟨h1, rfl⟩
      · refine .inl ⟨h1, fun w hw => ?_⟩
        unfold Oper.wp
        rw [h2 w]
        exact ⟨C, hw, hC, .inl (decide_eq_true hzi), h⟩
      · exact .inr ⟨h1, h⟩
    · obtain ⟨s1, s2, s3⟩ := earlyOk_spec hok ho hk hki (hw i hi) hp
      have hm : k ∈ rest.filter (· != i) := List.mem_filter.2 ⟨hk, by simpa using hki⟩
      have hz := h.2 k hm (fun j hj => hw j (List.mem_filter.1 hj).1) p hp
      have hag : ∀ (b : Act), b.tmps = a.tmps → ∀ t ∈ p.looksAt ops, (b.put o.dst v).tmps[t]? = a.tmps[t]? := fun b hb t ht => by rw [put_look (s1 t ht), hb]
      have hii : i ∈ rest.filter (· != k) := List.mem_filter.2 ⟨hi, by simpa using fun e : i = k => hki e.symm⟩
      have hok2 : earlyOk ops i (rest.filter (· != k)) = true := earlyOk_sub hok fun j hj => (List.mem_filter.1 hj).1
      have hfl : (rest.filter (· != i)).filter (· != k) = (rest.filter (· != k)).filter (· != i) := by
        rw [List.filter_filter, List.filter_filter]
        exact List.filter_congr fun x _ => Bool.and_comm _ _
      have hv2 : ∀ (b : Act) (u : Value), b.tmps = a.tmps → (Region.wanted o (yielded ops (b.put p.dst u).tmps) = true ∧ PureOK P o (b.put p.dst u) v) ∨ (Region.wanted o (yielded ops (b.put p.dst u).tmps) = false ∧ v = undef) := fun b u hb => by
        have hg : ∀ t ∈ o.looksAt ops, (b.put p.dst u).tmps[t]? = a.tmps[t]? := fun t ht => by rw [put_look (s2 t ht), hb]
        rw [wanted_agree hg]
        rcases hv with ⟨h1, h2⟩ | ⟨h1, h2⟩
        · refine .inl ⟨h1, fun w => ?_⟩
          rw [exec_agree hl ho hg]
          exact h2 w
        · exact .inr ⟨h1, h2⟩
      have hgo : ∀ (b : Act) (u : Value) (C' : World → Prop), b.tmps = a.tmps → (∀ w w', C' w → Ext w w' → C' w') → BraidZ P ops F QN z f ((rest.filter (· != i)).filter (· != k)) ((b.put o.dst v).put p.dst u) C' → BraidZ P ops F QN z (f + 1) (rest.filter (· != k)) (b.put p.dst u) C' := fun b u C' hb hC' hB => by
        refine ih _ _ _ hii hok2 (hv2 b u hb) hC' ?_
        rw [hfl, put_comm s3] at hB
        exact hB
      rcases hz with ⟨hwt, hz⟩ | ⟨hwt, hz⟩
      · refine .inl ⟨by rw [← wanted_agree (hag a rfl)]; exact hwt, fun w hCw => ?_⟩
        refine wp_transfer (a := a.put o.dst v) (exec_agree hl hp fun t ht => (hag a rfl t ht).symm) (fun _ _ _ h => h.elim) (fun u w' h => ?_) (fun d w' h => ?_) (hz w hCw)
        · obtain ⟨C', h1, h2, h3, h4⟩ := h
          exact ⟨C', h1, h2, h3, hgo a u C' rfl h2 h4⟩
        · obtain ⟨C', h1, h2, h3, h4⟩ := h
          refine ⟨C', h1, h2, h3, hgo { a with defers := d :: a.defers } undef C' rfl h2 ?_⟩
          rw [put_def] at h4
          rw [show (a.put o.dst v).defers = a.defers by cases o.dst <;> rfl] at h4
          exact h4
      · refine .inr ⟨by rw [← wanted_agree (hag a rfl)]; exact hwt, ?_⟩
        exact hgo a undef C rfl hC hz
/-- an operation that only computes, taken first -/
def EStep (P : Program) (ops : Array Oper) (K : Act → Prop) (o : Oper) (a : Act) : Prop :=
  ∃ v, ((Region.wanted o (yielded ops a.tmps) = true ∧ PureOK P o a v) ∨ (Region.wanted o (yielded ops a.tmps) = false ∧ v = undef)) ∧ K (a.put o.dst v)
theorem EStep.val {K : Act → Prop} {o : Oper} {a : Act} {v : Value} (hw : Region.wanted o (yielded ops a.tmps) = true) (hp : PureOK P o a v) (h : K (a.put o.dst v)) : EStep P ops K o a := ⟨v, .inl ⟨hw, hp⟩, h⟩
theorem EStep.skip {K : Act → Prop} {o : Oper} {a : Act} (hw : Region.wanted o (yielded ops a.tmps) = false) (h : K (a.put o.dst undef)) : EStep P ops K o a := ⟨undef, .inr ⟨hw, rfl⟩, h⟩
theorem BraidZ.earlyN {i f : Nat} {o : Oper} {rest : List Nat} {a : Act} {C : World → Prop} (hl : looksOk ops = true) (hz : decide (z ≤ i) = true) (hi : rest.contains i = true) (hok : earlyOk ops i rest = true) (ho : ops[i]? = some o) (hC : ∀ w w', C w → Ext w w' → C w')
    (h : EStep P ops (fun a' => BraidZ P ops F QN z f (rest.filter (· != i)) a' C) o a) : BraidZ P ops F QN z (f + 1) rest a C := by
  obtain ⟨v, hv, hB⟩ := h
  exact BraidZ.early hl ho (of_decide_eq_true hz) f rest a C (by simpa using hi) hok hv hC hB
end
theorem fill_from : ∀ (l : List Value) (k : Nat) (cells : Array Value), k + l.length = cells.size → ((l.zipIdx k).foldl (fun cs (x : Value × Nat) => cs.setIfInBounds (0 + x.2) x.1) cells).toList = cells.toList.take k ++ l
  | [], k, cells, h => by
    simp only [List.zipIdx_nil, List.foldl_nil, List.append_nil]
    rw [List.take_of_length_le (by simp at h ⊢; omega)]
  | c :: l, k, cells, h => by
    rw [List.length_cons] at h
    rw [List.zipIdx_cons, List.foldl_cons, fill_from l (k + 1) _ (by rw [Array.size_setIfInBounds]; omega), Nat.zero_add, Array.toList_setIfInBounds, List.take_add_one, List.getElem?_set_self (by rw [Array.length_toList]; omega), List.take_set_of_le (Nat.le_refl k)]
    simp
theorem run_build1 {P : Program} {t e : TypeId} {size bytes : Nat} (hE : Elem P t e size bytes) (v : Value) (us : List Value) (hv : v.cells = us.toArray) (hl : us.length = size) (hz : size ≤ 1000) (w : World) :
    (Instr.buildSlice t 1 #[(0, v)]).run P w = .ok (.slice (some ⟨w.heap.size, 0, none⟩) (1 : Nat) 1) (w.alloc (.cells us.toArray e)) := by
  obtain ⟨ie, z, h1, h2, h3, _, h5⟩ := hE.info
  have hpos := hE.pos
  refine run_buildSlice w t e 1 #[(0, v)] us.toArray ie z hE.under h1 h2 (by rw [h3]; omega) (by rw [h3]; omega) ?_
  have hs : v.cells.size = ie.size := by rw [hv, h3, ← hl]; simp
  show Instr.fill _ _ [(0, v)] = _
  unfold Instr.fill
  simp only [Nat.zero_mul, Nat.one_mul]
  rw [if_neg (by simp [hs])]
  unfold Instr.fill
  refine congrArg some (Array.toList_inj.1 ?_)
  have := fill_from us 0 ((Array.range ie.size).map fun i => z.cells[i % z.cells.size]!) (by rw [Nat.zero_add, hl, ← h3]; simp)
  rw [hv]
  rw [List.take_zero, List.nil_append] at this
  rw [← Array.foldl_toList, Array.toList_zipIdx]
  exact this
theorem ZStep.build1 {P : Program} {ops : Array Oper} {F : World → Prop} {zc : Bool} {K : Act → (World → Prop) → Prop} {o : Oper} {a : Act} {B : Nat} {w0 : World} {L : List Item} {t e : TypeId} {size bytes : Nat} {x : Operand} {us : List Value} (hE : Elem P t e size bytes)
    (hw : Region.wanted o (yielded ops a.tmps) = true) (hF : ∀ w, Hp B w0 w L → F w) (ho : o.op = .buildSlice t 1 #[(0, x)]) (hx : (a.eval x).cells = us.toArray) (hl : us.length = size) (hz : size ≤ 1000)
    (h : ∀ g, K (a.put o.dst (.slice (some ⟨g, 0, none⟩) (1 : Nat) 1)) (fun W => Hp B w0 W (.blk g us e :: L))) : ZStep P ops F zc K o a (fun W => Hp B w0 W L) := by
  refine ZStep.alloc (cs := us) (t := e) (f := fun g => .slice (some ⟨g, 0, none⟩) (1 : Nat) 1) hw hF (fun w hS => ?_) h
  have hr := run_build1 hE (a.eval x) us hx hl hz w
  unfold execOp
  rw [ho]
  simp only [List.map_toArray, List.map_cons, List.map_nil, Sem.run_bind, hr, Result.andThen_ok]
  rfl
end Go.Proofs.YtcpnnffnkegamaaGreatDoor

/- In a round of a range over a function, and in an iterator: regions and appends under Hp. For any program. -/
namespace Go.Proofs.YtcpnnffnkegamaaGreatDoor
set_option linter.all false
open Go.RowKit
attribute [local go_sem] Oper.semAt_some
/-- a fence that lets all through: calls go as everywhere -/
structure Open (F : Fence) : Prop where
  fn : ∀ f, F.fn f
  depth : F.depth = none
  calls : ∀ {n : Nat} {P : Program} {f : FuncId} {args : Array Value} {w : World} {R : Ending → World → Prop}, Calls P f args w R → CallsIn F n P f args w R
  rows : ∀ {n : Nat} {P : Program} {row : String} {args : Array Value} {w : World} {R : Value → World → Prop}, Rows P row args w R → RowsIn F n P row args w R
theorem open_wide : Open Fence.wide where
  fn := fun _ => trivial
  depth := rfl
  calls := fun h => callsIn_wide.2 h
  rows := fun h c cs _ => let ⟨v, w', r, s⟩ := h c cs; ⟨v, w', r, stepsIn_wide.2 s⟩
theorem Open.inRound {F : Fence} (h : Open F) (l : Nat) : Open (F.inRound l) where
  fn := h.fn
  depth := h.depth
  calls := fun k => CallsIn.inRound l (h.calls k)
  rows := fun k => h.rows (F := F) k
section
variable {F : Fence} {n : Nat} {P : Program} {ops : Array Oper} {B : Nat} {w0 : World} {L : List Item}
def noDefer (o : Oper) : Bool := match o.op with | .defer _ => false | _ => true
theorem operIn_of (hF : Open F) {o : Oper} (hnd : noDefer o = true) {a : Act} {w : World} {K K' : Act → World → Prop} {Q Q' : Exit → Act → World → Prop} (hK : ∀ a w, K a w → K' a w) (hQ : ∀ e a w, Q e a w → e = .normal) (h : o.wp P a w K Q) : o.wpIn F n P a w K' Q' := by
  have hs : o.semAt F.round a.eval = execOp a.eval o := by
    refine Oper.semAt_eq _ _ _ fun c e => ?_
    unfold noDefer at hnd
    rw [e] at hnd
    cases hnd
  refine ⟨fun f _ => hF.fn f, ?_⟩
  rw [hs]
  unfold Oper.wp at h
  generalize (execOp a.eval o).run P w = r at *
  cases r with
  | ok x w' =>
    cases x <;> simp only [Oper.upon, Oper.uponIn] at h ⊢
    case value => exact hK _ _ h
    case skip => exact hK _ _ h
    case defer => exact hK _ _ h
    case enter => exact ⟨fun hd => (by rw [hF.depth] at hd; cases hd), hF.calls (h.mono fun e w'' he => by
      cases e with
      | returned v => exact hK _ _ he
      | panicked chain => exact absurd (hQ _ _ _ he) (by simp)
      | outgrown => obtain ⟨a2, w2, h2⟩ := he; exact absurd (hQ _ _ _ h2) (by simp))⟩
    case row => exact ⟨fun hd => (by rw [hF.depth] at hd; cases hd), hF.rows (fun c cs => let ⟨v, w2, r, s⟩ := h c cs; ⟨v, w2, hK _ _ r, s⟩)⟩
  | halt x w' =>
    cases x <;> simp only [Oper.upon, Oper.uponIn] at h ⊢
    case panic => exact absurd (hQ _ _ _ h) (by simp)
theorem anyIn_of (hF : Open F) {Q : Exit → Act → World → Prop} (hnd : ops.all noDefer = true) : ∀ (fuel : Nat) (listed : Array Bool) (a : Act) (w : World), wpAny P .any ops (fun e a w => e = .normal ∧ Q e a w) fuel listed a w → wpAnyIn F n P .any ops Q fuel listed a w
  | 0, listed, a, w, h => ⟨h.1, h.2.2⟩
  | fuel + 1, listed, a, w, h => by
    refine ⟨fun hr => (h.1 hr).2, fun i hi => ?_⟩
    have hw := h.2 i hi
    unfold wpOp at hw
    unfold wpOpIn
    cases ho : ops[i]? with
    | none => rw [ho] at hw; exact anyIn_of hF hnd fuel _ _ _ hw
    | some o =>
      rw [ho] at hw
      simp only at hw ⊢
      have hd : noDefer o = true := by
        have := Array.all_eq_true_iff_forall_mem.1 hnd o (Array.mem_of_getElem? ho)
        exact this
      split
      · rename_i hwt
        rw [if_pos hwt] at hw
        rcases hw with hw | hw
        · exact operIn_of hF hd (fun a w h => anyIn_of hF hnd fuel _ a w h) (fun e a w h => h.1) hw
        · obtain ⟨_, a2, w2, h2, _⟩ := hw
          cases h2
      · rename_i hwt
        rw [if_neg hwt] at hw
        exact ⟨fun f _ => hF.fn f, anyIn_of hF hnd fuel _ _ _ hw⟩
theorem wpIn_region_braidz_hp (hF : Open F) {a : Act} {w : World} {Q : Exit → Act → World → Prop} {id : Nat} {l : List Oper} (ms : List Mark) (z : Nat) (LF : List Item) (hm : P.follows .mixedOrders = true) (hnd : l.toArray.all noDefer = true) (hlen : l.length = ms.length) (hok : braidZ l.toArray (mkOf ms) z = true)
    (hS : Hp B w0 w L) (hLF : ∀ w, Hp B w0 w L → Hp B w0 w LF)
    (h : Walk P l.toArray (fun W => Hp B w0 W LF) (fun a' => BraidZ P l.toArray (fun W => Hp B w0 W LF) (fun a w => Q .normal a w) z (braidsOf ms).length (braidsOf ms) a' (fun W => Hp B w0 W L)) ms l a) : (Code.region id l.toArray true).wpIn F n P Q a w :=
  wpIn_region_any hm (anyIn_of hF hnd _ _ _ _ (any_region_braidz (Q := fun e a w => e = .normal ∧ Q e a w) ms z (fun W => Hp B w0 W LF) (fun _ _ h => ⟨rfl, h⟩) hlen hok hS (fun _ _ h hx => h.step hx) hLF h))

theorem niLa {W : World} {o : Obj} {Q : Exit → Act → World → Prop} {l : List Oper} {a : Act} (k : ∀ w, Hp B w0 w L → wpListIn F n P ops Q l a w) (h : Hp B w0 (W.alloc o) L := by (repeat (first | with_reducible exact hS | with_reducible apply Hp.drew | with_reducible apply Hp.alloc | with_reducible apply Hp.put | with_reducible apply atS | with_reducible exact at0 | with_reducible exact at1 | with_reducible exact at2 | with_reducible exact at3 | with_reducible exact at4 | with_reducible exact at5))) : wpListIn F n P ops Q l a (W.alloc o) := k _ h
theorem niLs {W : World} {p : Addr} {u : Value} {Q : Exit → Act → World → Prop} {l : List Oper} {a : Act} (k : ∀ w, Hp B w0 w L → wpListIn F n P ops Q l a w) (h : Hp B w0 (W.setCell p u) L := by (repeat (first | with_reducible exact hS | with_reducible apply Hp.drew | with_reducible apply Hp.alloc | with_reducible apply Hp.put | with_reducible apply atS | with_reducible exact at0 | with_reducible exact at1 | with_reducible exact at2 | with_reducible exact at3 | with_reducible exact at4 | with_reducible exact at5))) : wpListIn F n P ops Q l a (W.setCell p u) := k _ h
theorem niLd {W : World} {Q : Exit → Act → World → Prop} {l : List Oper} {a : Act} (k : ∀ w, Hp B w0 w L → wpListIn F n P ops Q l a w) (h : Hp B w0 W.drew L := by (repeat (first | with_reducible exact hS | with_reducible apply Hp.drew | with_reducible apply Hp.alloc | with_reducible apply Hp.put | with_reducible apply atS | with_reducible exact at0 | with_reducible exact at1 | with_reducible exact at2 | with_reducible exact at3 | with_reducible exact at4 | with_reducible exact at5))) : wpListIn F n P ops Q l a W.drew := k _ h
theorem niCa {W : World} {o : Obj} {c : Code} {Q : Exit → Act → World → Prop} {a : Act} (k : ∀ w, Hp B w0 w L → Code.wpIn F n P c Q a w) (h : Hp B w0 (W.alloc o) L := by (repeat (first | with_reducible exact hS | with_reducible apply Hp.drew | with_reducible apply Hp.alloc | with_reducible apply Hp.put | with_reducible apply atS | with_reducible exact at0 | with_reducible exact at1 | with_reducible exact at2 | with_reducible exact at3 | with_reducible exact at4 | with_reducible exact at5))) : Code.wpIn F n P c Q a (W.alloc o) := k _ h
theorem niCs {W : World} {p : Addr} {u : Value} {c : Code} {Q : Exit → Act → World → Prop} {a : Act} (k : ∀ w, Hp B w0 w L → Code.wpIn F n P c Q a w) (h : Hp B w0 (W.setCell p u) L := by (repeat (first | with_reducible exact hS | with_reducible apply Hp.drew | with_reducible apply Hp.alloc | with_reducible apply Hp.put | with_reducible apply atS | with_reducible exact at0 | with_reducible exact at1 | with_reducible exact at2 | with_reducible exact at3 | with_reducible exact at4 | with_reducible exact at5))) : Code.wpIn F n P c Q a (W.setCell p u) := k _ h
theorem niCd {W : World} {c : Code} {Q : Exit → Act → World → Prop} {a : Act} (k : ∀ w, Hp B w0 w L → Code.wpIn F n P c Q a w) (h : Hp B w0 W.drew L := by (repeat (first | with_reducible exact hS | with_reducible apply Hp.drew | with_reducible apply Hp.alloc | with_reducible apply Hp.put | with_reducible apply atS | with_reducible exact at0 | with_reducible exact at1 | with_reducible exact at2 | with_reducible exact at3 | with_reducible exact at4 | with_reducible exact at5))) : Code.wpIn F n P c Q a W.drew := k _ h
theorem niPa {W : World} {o : Obj} {fn : Func} {R : Ending → World → Prop} {x : Exit} {a : Act} (k : ∀ w, Hp B w0 w L → bodyPostM F n P fn R x a w) (h : Hp B w0 (W.alloc o) L := by (repeat (first | with_reducible exact hS | with_reducible apply Hp.drew | with_reducible apply Hp.alloc | with_reducible apply Hp.put | with_reducible apply atS | with_reducible exact at0 | with_reducible exact at1 | with_reducible exact at2 | with_reducible exact at3 | with_reducible exact at4 | with_reducible exact at5))) : bodyPostM F n P fn R x a (W.alloc o) := k _ h
theorem niPs {W : World} {p : Addr} {u : Value} {fn : Func} {R : Ending → World → Prop} {x : Exit} {a : Act} (k : ∀ w, Hp B w0 w L → bodyPostM F n P fn R x a w) (h : Hp B w0 (W.setCell p u) L := by (repeat (first | with_reducible exact hS | with_reducible apply Hp.drew | with_reducible apply Hp.alloc | with_reducible apply Hp.put | with_reducible apply atS | with_reducible exact at0 | with_reducible exact at1 | with_reducible exact at2 | with_reducible exact at3 | with_reducible exact at4 | with_reducible exact at5))) : bodyPostM F n P fn R x a (W.setCell p u) := k _ h
theorem niPd {W : World} {fn : Func} {R : Ending → World → Prop} {x : Exit} {a : Act} (k : ∀ w, Hp B w0 w L → bodyPostM F n P fn R x a w) (h : Hp B w0 W.drew L := by (repeat (first | with_reducible exact hS | with_reducible apply Hp.drew | with_reducible apply Hp.alloc | with_reducible apply Hp.put | with_reducible apply atS | with_reducible exact at0 | with_reducible exact at1 | with_reducible exact at2 | with_reducible exact at3 | with_reducible exact at4 | with_reducible exact at5))) : bodyPostM F n P fn R x a W.drew := k _ h
theorem niKa {W : World} {o : Obj} {f : FuncId} {R : Ending → World → Prop} {args : Array Value} (k : ∀ w, Hp B w0 w L → CallsIn F n P f args w R) (h : Hp B w0 (W.alloc o) L := by (repeat (first | with_reducible exact hS | with_reducible apply Hp.drew | with_reducible apply Hp.alloc | with_reducible apply Hp.put | with_reducible apply atS | with_reducible exact at0 | with_reducible exact at1 | with_reducible exact at2 | with_reducible exact at3 | with_reducible exact at4 | with_reducible exact at5))) : CallsIn F n P f args (W.alloc o) R := k _ h
theorem niKs {W : World} {p : Addr} {u : Value} {f : FuncId} {R : Ending → World → Prop} {args : Array Value} (k : ∀ w, Hp B w0 w L → CallsIn F n P f args w R) (h : Hp B w0 (W.setCell p u) L := by (repeat (first | with_reducible exact hS | with_reducible apply Hp.drew | with_reducible apply Hp.alloc | with_reducible apply Hp.put | with_reducible apply atS | with_reducible exact at0 | with_reducible exact at1 | with_reducible exact at2 | with_reducible exact at3 | with_reducible exact at4 | with_reducible exact at5))) : CallsIn F n P f args (W.setCell p u) R := k _ h
theorem niKd {W : World} {f : FuncId} {R : Ending → World → Prop} {args : Array Value} (k : ∀ w, Hp B w0 w L → CallsIn F n P f args w R) (h : Hp B w0 W.drew L := by (repeat (first | with_reducible exact hS | with_reducible apply Hp.drew | with_reducible apply Hp.alloc | with_reducible apply Hp.put | with_reducible apply atS | with_reducible exact at0 | with_reducible exact at1 | with_reducible exact at2 | with_reducible exact at3 | with_reducible exact at4 | with_reducible exact at5))) : CallsIn F n P f args W.drew R := k _ h
/-- what is no cells, from B1 on, as things -/
theorem Hp.others {w : World} (B1 : Nat) (hB : B ≤ B1) (h : Hp B w0 w L) (hL : ∀ x ∈ L, ∀ g, x.block = some g → ∃ o, w.heap[g]? = some o ∧ o.isCells = true) :
    ∃ K : List Item, Hp B w0 w (L ++ K) ∧ ∀ (w' : World) (M : List Item), Hp B w0 w' M → w.heap.size ≤ w'.heap.size → (∀ x ∈ K, x ∈ M) → KeepsFrom B1 w w' := by
  let K : List Item := (List.range w.heap.size).filterMap fun k => if B1 ≤ k then (match w.heap[k]? with | some o => if o.isCells then none else some (.ob k o) | none => none) else none
  have hmem : ∀ x ∈ K, ∃ k o, x = .ob k o ∧ B1 ≤ k ∧ w.heap[k]? = some o ∧ o.isCells = false := fun x hx => by
    obtain ⟨k, _, hk⟩ := List.mem_filterMap.1 hx
    split at hk
    · rename_i hb
      split at hk
      · rename_i o ho
        split at hk
        · cases hk
        · rename_i hc
          exact ⟨k, o, (Option.some.inj hk).symm, hb, ho, by simpa using hc⟩
      · cases hk
    · cases hk
  refine ⟨K, ⟨h.below, h.base, List.pairwise_append.2 ⟨h.apart, ?_, ?_⟩, ?_⟩, ?_⟩
  · refine List.Pairwise.filterMap _ (R := fun a b => a ≠ b) ?_ (List.nodup_range)
    intro a b hab x hx y hy
    right
    have e1 : x.block = some a := by
      split at hx
      · split at hx
        · split at hx
          · cases hx
          · cases hx; rfl
        · cases hx
      · cases hx
    have e2 : y.block = some b := by
      split at hy
      · split at hy
        · split at hy
          · cases hy
          · cases hy; rfl
        · cases hy
      · cases hy
    rw [e1, e2]
    simpa using hab
  · intro x hx y hy
    obtain ⟨k, o, rfl, _, ho, hc⟩ := hmem y hy
    cases hb : x.block with
    | none => exact .inl hb
    | some g =>
      right
      rw [hb]
      intro e
      obtain ⟨o2, ho2, hc2⟩ := hL x hx g hb
      have : g = k := by simpa [Item.block] using e
      subst this
      rw [ho] at ho2
      cases ho2
      rw [hc] at hc2
      cases hc2
  · intro x hx
    rcases List.mem_append.1 hx with hx | hx
    · exact h.own x hx
    · obtain ⟨k, o, rfl, hk, ho, _⟩ := hmem x hx
      exact ⟨Nat.le_trans hB hk, ho⟩
  · intro w' M hM hsz hK
    refine ⟨hsz, fun k o hk ho hc => ?_⟩
    have hx : Item.ob k o ∈ K := by
      refine List.mem_filterMap.2 ⟨k, by simpa using (Array.getElem?_eq_some_iff.1 ho).1, ?_⟩
      simp only [if_pos hk, ho, hc]
      rfl
    exact (hM.own _ (hK _ hx)).2
end
end Go.Proofs.YtcpnnffnkegamaaGreatDoor

/- A walk with things that are no cells (loops, what waits): what is made of cells lies as it lay. For any program. -/
namespace Go.Proofs.YtcpnnffnkegamaaGreatDoor
set_option linter.all false
open Go.RowKit
/-- a thing that is made of cells -/
def CellI : Item → Prop
  | .blk .. => True
  | .row .. => True
  | _ => False
theorem Hp.cellsOf {B : Nat} {w0 w : World} {L : List Item} (h : Hp B w0 w L) (hL : ∀ x ∈ L, CellI x) : ∀ x ∈ L, ∀ g, x.block = some g → ∃ o, w.heap[g]? = some o ∧ o.isCells = true := fun x hx g hg => by
  have ho := h.own x hx
  have hc := hL x hx
  cases x with
  | blk g' cs t =>
    obtain rfl : g' = g := by simpa [Item.block] using hg
    exact ⟨_, ho.2, rfl⟩
  | row e size A n cap xs =>
    rcases (show w.ownsRow B e size (.slice A n cap) n xs from ho).2 with ⟨hv, _⟩ | ⟨g', cp, cur, hv, _, hh, _⟩
    · obtain ⟨rfl, _⟩ : A = none ∧ _ := by simpa using hv
      simp [Item.block] at hg
    · obtain ⟨rfl, _⟩ : A = some ⟨g', 0, none⟩ ∧ _ := by simpa using hv
      obtain rfl : g' = g := by simpa [Item.block] using hg
      exact ⟨_, hh, rfl⟩
  | ob g' o => exact hc.elim
  | mp m o => exact hc.elim
theorem Hp.turnOther {B : Nat} {w0 w w' : World} {L : List Item} {row : Option Nat} (h : Hp B w0 w L) (hL : ∀ x ∈ L, CellI x) (hg : w.grownBy w' row) (hrow : ∀ r, row = some r → B ≤ r ∧ ∃ o : Obj, w.heap[r]? = some o ∧ o.isCells = false) : Hp B w0 w' L :=
  ⟨h.below.grown hg h.base (fun k hk => (hrow k hk).1), Nat.le_trans h.base hg.size, h.apart, fun x hx => (h.own x hx).kept hg (by
    cases hb : x.block with
    | none => exact .inl rfl
    | some g =>
      right
      intro e
      obtain ⟨_, o, ho, hc⟩ := hrow g e.symm
      obtain ⟨o2, ho2, hc2⟩ := h.cellsOf hL x hx g hb
      rw [ho] at ho2
      cases ho2
      rw [hc] at hc2
      cases hc2)⟩
theorem Hp.obj {B : Nat} {w0 w : World} {L : List Item} {D : Nat} {o : Obj} (h : Hp B w0 w L) (hL : ∀ x ∈ L, CellI x) (hB : B ≤ D) (hD : w.heap[D]? = some o) (ho : o.isCells = false) : Hp B w0 w (.ob D o :: L) :=
  h.cons ⟨hB, hD⟩ fun y hy => by
    right
    intro e
    obtain ⟨o2, h2, hc⟩ := h.cellsOf hL y hy D e.symm
    rw [hD] at h2
    cases h2
    rw [ho] at hc
    cases hc
/-- all cells of a block are written, one by one -/
def setCells (w : World) (g : Nat) : Nat → List Value → World
  | _, [] => w
  | j, u :: us => setCells (w.setCell ⟨g, j, none⟩ u) g (j + 1) us
theorem grownBy_row (w : World) (g : Nat) (cs : Array Value) : w.grownBy (w.setRow g cs) (some g) :=
  ⟨rfl, rfl, rfl, by simp, fun k _ hk => setRow_other w g k cs (by simpa using hk)⟩
theorem Hp.putAll {B : Nat} {w0 w : World} {L : List Item} {g : Nat} {cs : List Value} {t : TypeId} {i : Nat} (us : List Value) (h : Hp B w0 w L) (hi : L[i]? = some (.blk g cs t)) : Hp B w0 (w.setRow g us.toArray) (L.set i (.blk g us t)) :=
  ((h.front i hi).turn (y := .blk g us t) (grownBy_row w g us.toArray) (.inr rfl) ⟨(h.front i hi).head.1, setRow_heap w g cs.toArray us.toArray t (0, 0) (h.front i hi).head.2⟩ (.inl rfl)).perm (set_perm L i _ _ hi)
/-- a store of all cells of a block -/
theorem ZStep.storeRow {P : Program} {ops : Array Oper} {F : World → Prop} {zc : Bool} {K : Act → (World → Prop) → Prop} {o : Oper} {a : Act} {B : Nat} {w0 : World} {L : List Item} {i g : Nat} {ty t : TypeId} {x y : Operand} {cs us : List Value}
    (hz : zc = true ∨ ∀ w, Hp B w0 w (L.set i (.blk g us t)) → F w) (hw : Region.wanted o (yielded ops a.tmps) = true) (ho : o.op = .store ty x y) (hx : a.eval x = .pointer (some ⟨g, 0, none⟩)) (hy : a.eval y = .agg us.toArray) (hi : L[i]? = some (.blk g cs t))
    (hsz : (P.info? ty).map (·.size) = some us.toArray.size) (hl : cs.toArray.size = us.toArray.size) (h1 : us.toArray.all (·.oneCell') = true) (h : K (a.put o.dst undef) (fun W => Hp B w0 W (L.set i (.blk g us t)))) : ZStep P ops F zc K o a (fun W => Hp B w0 W L) := by
  refine .inl ⟨hw, fun w hS => ?_⟩
  refine wp_store_row ty x y ho g us.toArray hx hy t cs.toArray (hS.blkAt i hi) hsz hl h1 ?_
  exact ⟨_, hS.putAll us hi, fun _ _ h hx => h.step hx, hz, h⟩
end Go.Proofs.YtcpnnffnkegamaaGreatDoor

/- A range over an iterator that writes a box of its own between the rounds. For any program. -/
namespace Go.Proofs.YtcpnnffnkegamaaGreatDoor
set_option linter.all false
open Go.RowKit
/-- the boxes of an iterator lie as they lay -/
def BoxKeep (bs : List Nat) (W W' : World) : Prop := ∀ b ∈ bs, ∀ t v, Boxed W b t v → Boxed W' b t v
theorem BoxKeep.trans {bs : List Nat} {A B C : World} (h : BoxKeep bs A B) (k : BoxKeep bs B C) : BoxKeep bs A C := fun b hb t v hv => k b hb t v (h b hb t v hv)
theorem BoxKeep.put {bs : List Nat} {W : World} {l : Nat} {o : Obj} (o' : Obj) (hl : W.heap[l]? = some o) (hc : o.isCells = false) : BoxKeep bs W (W.putObj l o') := fun b _ t v hv => by
  have hne : b ≠ l := by
    rintro rfl
    unfold Boxed at hv
    rw [hl] at hv
    cases hv
    cases hc
  exact (World.putObj_heap_other hne).trans hv
/-- an iterator that hands back a row of values, one by one, and writes the box b alone -/
def SeqBox {α : Type} (F : Fence) (n : Nat) (P : Program) (g : Nat) (lb : Array Value) (b : Nat) (bs : List Nat) (enc : α → Value) (xs : List α) (w0 : World) : Prop :=
  ∀ (l : Nat) (J : Nat → World → Prop) (W : World), Below w0.heap.size w0 W → (∀ k A v, J k A → J k (A.setCell ⟨b, 0, none⟩ v)) →
    (∀ k x W1, J k W1 → xs[k]? = some x → YieldAt F (n - 1) P l #[enc x] W1 fun e W' => e = .returned (.bool true) ∧ J (k + 1) W' ∧ BoxKeep bs W1 W') → J 0 W →
    CallsIn F n P g (#[.func (.yield l) #[] #[]] ++ lb) W fun e W' => (∃ v, e = .returned v) ∧ J xs.length W'
theorem setCell_other {W : World} {b k : Nat} {v : Value} (h : k ≠ b) : (W.setCell ⟨b, 0, none⟩ v).heap[k]? = W.heap[k]? := by
  by_cases hk : k < W.heap.size
  · exact (grownBy_setCell' W b v).block k hk (by simpa using h)
  · have h1 : W.heap[k]? = none := by simp; omega
    have h2 : (W.setCell ⟨b, 0, none⟩ v).heap.size = W.heap.size := by unfold World.setCell; split <;> (try split) <;> simp
    rw [h1]; simp; omega
section
variable {F : Fence} {n : Nat} {P : Program}
theorem wpIn_rangeFunc_box {α : Type} {g : Operand} {ps : Array Tmp} {assign body : Code} {Q : Exit → Act → World → Prop} {a : Act} {w : World}
    (hro : F.round = none) (h1 : 1 ≤ n) {gf : Nat} {lb : Array Value} (hg : a.eval g = .func (.func gf) #[] lb) (hFg : F.fn gf) (eg : ∀ args w, (callFunc gf args).run P w = .ok (.enter gf args) w)
    {enc : α → Value} {b : Nat} {bs : List Nat} {xs : List α} {w0 : World} (hseq : SeqBox F (n - 1) P gf lb b bs enc xs w0) (hb0 : Below w0.heap.size w0 w) (hps : ps.size = 1) (hbl : b < w.heap.size)
    (I : Nat → World → Prop) (hIp : ∀ k A l o o', I k A → w.heap.size ≤ l → A.heap[l]? = some o → o.isCells = false → I k (A.putObj l o')) (hIa : ∀ k A o, I k A → I k (A.alloc o)) (hIs : ∀ k A v, I k A → I k (A.setCell ⟨b, 0, none⟩ v)) (h0 : I 0 w) (a₁ : α → Act)
    (hassign : ∀ (l : Nat) (x : α) (W : World) (K : Act → World → Prop), K (a₁ x) W →
      assign.wpIn (F.inRound l) (n - 1 - 1) P (Exit.then K (fun _ _ _ => False)) { tmps := (ps.zip #[enc x]).foldl (fun t (p, v) => t.setIfInBounds p v) a.tmps, defers := [] } W)
    (hbody : ∀ (l k : Nat) (x : α) (W : World), I k W → xs[k]? = some x → body.wpIn (F.inRound l) (n - 1 - 1) P (fun e _ W' => e = .normal ∧ KeepsFrom w.heap.size W W' ∧ BoxKeep bs W W' ∧ I (k + 1) W') (a₁ x) W)
    (hdone : ∀ (D : Nat) (W : World), w.heap.size ≤ D → I xs.length W → W.heap[D]? = some (.deferred (some [])) → Q .normal { a with defers := { target := .collected D, args := #[] } :: a.defers } W) :
    (Code.rangeFunc g ps assign body).wpIn F n P Q a w := by
  refine wpIn_rangeFunc fun fn hfn => ?_
  rw [hro]
  obtain ⟨rec, hrec⟩ : ∃ rec : LoopState → Option Code → Loop, rec = fun st pe => { state := st, pending := pe, fn, tmps := a.tmps, params := ps, assign, body, defers := w.heap.size } := ⟨_, rfl⟩
  obtain ⟨W1, hW1⟩ : ∃ W1, (w.alloc (.deferred (some []))).alloc (.loop (rec .ready none)) = W1 := ⟨_, rfl⟩
  have hL1 : W1.heap[w.heap.size + 1]? = some (.loop (rec .ready none)) := by
    have := World.alloc_heap_new (w.alloc (.deferred (some []))) (.loop (rec .ready none))
    rw [World.size_alloc, hW1] at this
    exact this
  have hD1 : W1.heap[w.heap.size]? = some (.deferred (some [])) := by
    rw [← hW1]
    exact (Below.heap_alloc _ _ _ (by simp)).trans (World.alloc_heap_new w _)
  have hB1 : Below w0.heap.size w0 W1 := by
    rw [← hW1]
    exact hb0.trans ((((Below.refl _ w).alloc (Nat.le_refl _) _).alloc (by simp) _).mono hb0.size)
  refine ⟨w.heap.size + 1, [{ target := .collected w.heap.size, args := #[] }], W1, { target := .fn (.func gf) lb, args := #[.func (.yield (w.heap.size + 1)) #[] #[]] }, W1, gf, #[.func (.yield (w.heap.size + 1)) #[] #[]] ++ lb, W1,
    by rw [← hW1, hrec]; exact run_enterLoop_outer _ _ _ _ _, by simp only [resolve, hg]; simp [go_sem], fun f' hf' => by simp [Target.leads] at hf'; subst hf'; exact hFg, by simp [invoke, go_sem, eg], fun _ => h1, ?_⟩
  refine (hseq (w.heap.size + 1) (fun k W => I k W ∧ W.heap[w.heap.size + 1]? = some (.loop (rec .ready none)) ∧ W.heap[w.heap.size]? = some (.deferred (some []))) W1 hB1
    (fun k A v h => ⟨hIs k A v h.1, (setCell_other (by omega)).trans h.2.1, (setCell_other (by omega)).trans h.2.2⟩) ?_ ⟨by rw [← hW1]; exact hIa _ _ _ (hIa _ _ _ h0), hL1, hD1⟩).mono ?_
  · rintro k x W ⟨hi, hl, hd⟩ hx
    have hlt : w.heap.size + 1 < W.heap.size := (Array.getElem?_eq_some_iff.1 hl).1
    have hy := run_yield (P := P) (args := #[enc x]) hl (by rw [hrec]; simpa using hps.symm)
    rw [hrec] at hy
    refine ⟨fn, _, assign, body, hy, roundIn_of_wpIn hfn (hassign _ x W _ ⟨_, run_beginRound hl (by rw [hrec]), ?_⟩)⟩
    have hl2 : (W.putObj (w.heap.size + 1) (.loop { rec .ready none with state := .busy })).heap[w.heap.size + 1]? = some (.loop { rec .ready none with state := .busy }) := World.putObj_heap_same hlt
    have hd2 : (W.putObj (w.heap.size + 1) (.loop { rec .ready none with state := .busy })).heap[w.heap.size]? = some (.deferred (some [])) := (World.putObj_heap_other (by omega)).trans hd
    refine wpIn_mono (hbody _ k x _ (hIp _ _ _ _ _ hi (by omega) hl rfl) hx) ?_
    rintro e a3 W3 ⟨rfl, hk3, hb3, hi3⟩
    have hl3 := hk3.same _ _ (by omega) hl2 rfl
    have hr := run_endRound (P := P) none hl3
    rw [hrec] at hr
    refine ⟨_, _, hr, rfl, ⟨hIp _ _ _ _ _ hi3 (by omega) hl3 rfl, ?_, (World.putObj_heap_other (by omega)).trans (hk3.same _ _ (Nat.le_refl _) hd2 rfl)⟩, (BoxKeep.put _ hl rfl).trans (hb3.trans (BoxKeep.put _ hl3 rfl))⟩
    rw [hrec]
    exact World.putObj_heap_same (Array.getElem?_eq_some_iff.1 hl3).1
  · rintro e W2 ⟨⟨v, rfl⟩, hi, hl, hd⟩
    refine ⟨none, _, by have := run_endLoop (P := P) hl (by rw [hrec]; simp); rw [hrec] at this; exact this, hdone _ _ (Nat.le_refl _) (hIp _ _ _ _ _ hi (by omega) hl rfl) ((World.putObj_heap_other (by omega)).trans hd)⟩
end
end Go.Proofs.YtcpnnffnkegamaaGreatDoor
