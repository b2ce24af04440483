/- Texts joined: As BraidZ: and operations from number z on wait for all quiet ones: they may turn what these read. For any program. As Braid2, where three operations may come next. For any program. In a drawn region: an operation that only computes may be taken first, wherever it stands. For any program. a map that the call owns, in the walk. a map from strings to strings that the call owns, nil or not; what it reads as; ranging over it. For any program. a map from strings to whatever values, as they are; made, written, looked into, ranged over. For any program. A region of quiet operations, of new blocks, and of a tail, under Hp. For any program. slices of numbers: what they hold; slices.Clone. Strings are keys of maps. slices of numbers: Contains, ContainsFunc, Sort; log.mask. pick: a number below another one. Arguments that are slices of numbers: what their cells hold. slices of strings: what their cells hold. api.Tell. -/
import Derived.Test.YtlgidjanmaijaaaGreatDoorCX03
import Derived.Great.BuildSlice
import Derived.Maps.OwnOps
import Derived.Maps.OwnSet
import Derived.Maps.Views
import Derived.Maps.StringElems
import Derived.Maps.RangeWalk
import Derived.Maps.Ext
import Derived.Test.YtlgidjanmaijaaaGreatDoorProg
import Derived.StringKeys
import Derived.Test.YtlgidjanmaijaaaGreatDoorCX01
import Derived.Sort.OwnSortedInts
import Derived.Lib.SmallJoins
/- As BraidZ: and operations from number z on wait for all quiet ones: they may turn what these read. For any program. -/
namespace Go.Proofs.YtlgidjanmaijaaaGreatDoor
set_option linter.all false
open Go.RowKit
section
variable {P : Program} {ops : Array Oper} {F : World → Prop} {QN : Act → World → Prop} {z : Nat} {zc : Bool}

/-- the quiet ones wait for quiet ones alone -/
def braidZ (ops : Array Oper) (mk : Nat → Mark) (z : Nat) : Bool :=
  (List.range ops.size).all (fun i => !((mk i).isT && decide (z ≤ i)) || (List.range ops.size).all fun j => (mk j).isT || deps ops 6 i j) && (fixedOk ops && (List.range ops.size).all fun i => ((mk i).isQ || (mk i).isT) && (List.range ops.size).all fun j => (mk i).isT || !(waits ops i j && (mk j).isT))

/-- one operation, and what is to hold behind it -/
def ZStep (P : Program) (ops : Array Oper) (F : World → Prop) (zc : Bool) (K : Act → (World → Prop) → Prop) (o : Oper) (a : Act) (C : World → Prop) : Prop :=
    (Region.wanted o (yielded ops a.tmps) = true ∧ ∀ w, C w → o.wp P a w (fun a' w' => ∃ C' : World → Prop, C' w' ∧ (∀ w w', C' w → Ext w w' → C' w') ∧ (zc = true ∨ ∀ w, C' w → F w) ∧ K a' C') (fun _ _ _ => False)) ∨
    (Region.wanted o (yielded ops a.tmps) = false ∧ K (a.put o.dst undef) C)
/-- the walk over the operations whose numbers are in the list, in every order that is allowed -/
def BraidZ (P : Program) (ops : Array Oper) (F : World → Prop) (QN : Act → World → Prop) (z : Nat) : Nat → List Nat → Act → (World → Prop) → Prop
  | 0, rest, a, C => rest = [] ∧ ∀ w, C w → QN a w
  | f + 1, rest, a, C => (rest = [] → ∀ w, C w → QN a w) ∧ ∀ i ∈ rest, (∀ j ∈ rest, waits ops i j = false) → ∀ o, ops[i]? = some o → ZStep P ops F (decide (z ≤ i)) (BraidZ P ops F QN z f (rest.filter (· != i))) o a C
theorem BraidZ.fin {f : Nat} {a : Act} {C : World → Prop} (h : BraidZ P ops F QN z f [] a C) : ∀ w, C w → QN a w := by
  cases f with
  | zero => exact h.2
  | succ f => exact h.1 rfl
/-- the operations that may come next -/
def nextsZ (ops : Array Oper) (rest : List Nat) : List Nat := rest.filter fun i => rest.all fun j => !waits ops i j
theorem BraidZ.next {f : Nat} {rest nx : List Nat} {a : Act} {C : World → Prop} (hne : rest.isEmpty = false) (hx : nextsZ ops rest = nx) (h : ∀ i ∈ nx, ∀ o, ops[i]? = some o → ZStep P ops F (decide (z ≤ i)) (BraidZ P ops F QN z f (rest.filter (· != i))) o a C) : BraidZ P ops F QN z (f + 1) rest a C := by
  refine ⟨fun e => absurd hne (by rw [e]; decide), fun i hi hw o ho => h i ?_ o ho⟩
  rw [← hx]
  exact List.mem_filter.2 ⟨hi, List.all_eq_true.2 fun j hj => by rw [hw j hj]; rfl⟩
theorem BraidZ.next1 {f : Nat} {rest : List Nat} {a : Act} {C : World → Prop} {i : Nat} {o : Oper} (hne : rest.isEmpty = false) (hx : nextsZ ops rest = [i]) (ho : ops[i]? = some o) (h : ZStep P ops F (decide (z ≤ i)) (BraidZ P ops F QN z f (rest.filter (· != i))) o a C) : BraidZ P ops F QN z (f + 1) rest a C :=
  BraidZ.next hne hx fun k hk o' ho' => by
    obtain rfl : k = i := by simpa using hk
    obtain rfl : o = o' := Option.some.inj (ho.symm.trans ho')
    exact h
theorem BraidZ.next2 {f : Nat} {rest : List Nat} {a : Act} {C : World → Prop} {i j : Nat} {o p : Oper} (hne : rest.isEmpty = false) (hx : nextsZ ops rest = [i, j]) (ho : ops[i]? = some o) (hp : ops[j]? = some p) (h : ZStep P ops F (decide (z ≤ i)) (BraidZ P ops F QN z f (rest.filter (· != i))) o a C) (h2 : ZStep P ops F (decide (z ≤ j)) (BraidZ P ops F QN z f (rest.filter (· != j))) p a C) : BraidZ P ops F QN z (f + 1) rest a C :=
  BraidZ.next hne hx fun k hk o' ho' => by
    rcases (by simpa using hk : k = i ∨ k = j) with rfl | rfl
    · obtain rfl : o = o' := Option.some.inj (ho.symm.trans ho')
      exact h
    · obtain rfl : p = o' := Option.some.inj (hp.symm.trans ho')
      exact h2
theorem BraidZ.last {f : Nat} {rest : List Nat} {a : Act} {C : World → Prop} (hr : rest = []) (h : ∀ w, C w → QN a w) : BraidZ P ops F QN z f rest a C := by
  subst hr
  cases f with
  | zero => exact ⟨rfl, h⟩
  | succ f => exact ⟨fun _ => h, fun i hi => by cases hi⟩
theorem BraidZ.done {a : Act} {C : World → Prop} (h : ∀ w, C w → QN a w) : ∀ f, BraidZ P ops F QN z f [] a C
  | 0 => ⟨rfl, h⟩
  | f + 1 => ⟨fun _ => h, fun i hi => by cases hi⟩

theorem phaseZ {mk : Nat → Mark} {Q : Exit → Act → World → Prop} {a00 : Act} {vsQ : Nat → Value} (hok : braidZ ops mk z = true) (hQN : ∀ a w, QN a w → Q .normal a w)
    (hq : ∀ i o, ops[i]? = some o → (mk i).isT = false → (Region.wanted o (yielded ops (frameQ ops mk vsQ a00 i).tmps) = true ∧ StepOK P F o (frameQ ops mk vsQ a00 i) (vsQ i)) ∨ (Region.wanted o (yielded ops (frameQ ops mk vsQ a00 i).tmps) = false ∧ vsQ i = undef)) :
    ∀ (fuel : Nat) (listed : Array Bool) (vs : Nat → Value) (a0 : Act) (w : World) (rest : List Nat) (C : World → Prop) (f : Nat), a0.tmps = a00.tmps → listed.size = ops.size → ((List.range ops.size).filter fun j => !listed.getD j true).length ≤ fuel →
      (∀ i j, listed.getD i false = true → waits ops i j = true → listed.getD j false = true) →
      (∀ i, (mk i).isT = false → vs i = vsQ i) →
      rest = (List.range ops.size).filter (fun i => (mk i).isT && !listed.getD i false) → C w → (∀ w w', C w → Ext w w' → C w') → ((∀ w, C w → F w) ∨ ∀ j, j < ops.size → (mk j).isT = false → listed.getD j false = true) →
      BraidZ P ops F QN z f rest (frameOf ops vs (fun j => !(mk j).isT || listed.getD j false) a0 ops.size) C →
      wpAny P .any ops Q fuel listed (frameOf ops vs (fun j => listed.getD j false) a0 ops.size) w := by
  simp only [braidZ, Bool.and_eq_true] at hok
  obtain ⟨hzz, hfx, hch⟩ := hok
  have hzd : ∀ i j, i < ops.size → j < ops.size → (mk i).isT = true → z ≤ i → (mk j).isT = false → deps ops 6 i j = true := fun i j hi hj hT hz hTj => by
    have h := List.all_eq_true.1 hzz i (by simpa using hi)
    rw [hT, decide_eq_true hz, Bool.and_self, Bool.not_true, Bool.false_or] at h
    have h2 := List.all_eq_true.1 h j (by simpa using hj)
    rwa [hTj, Bool.false_or] at h2
  have hd : dstApart ops = true := by simp only [fixedOk, Bool.and_eq_true] at hfx; exact hfx.1
  have hl : looksOk ops = true := by simp only [fixedOk, Bool.and_eq_true] at hfx; exact hfx.2
  rw [List.all_eq_true] at hch
  have hquiet : ∀ i j, (mk i).isT = false → waits ops i j = true → (mk j).isT = false := fun i j hT hw => by
    have hi := waits_lt hw
    have h := hch i (by simpa using hi)
    rw [Bool.and_eq_true] at h
    have h2 := List.all_eq_true.1 h.2 j (by simpa using Nat.lt_trans (waits_on hl hw) hi)
    rw [hT, hw] at h2
    simpa using h2
  have hQT : ∀ i, i < ops.size → (mk i).isQ = !(mk i).isT := fun i hi => by
    have h := hch i (by simpa using hi)
    rw [Bool.and_eq_true] at h
    rcases (mk i).trio with ⟨a, b, c⟩ | ⟨a, b, c⟩ | ⟨a, b, c⟩ <;> simp [a, c] at h ⊢
  have fin : ∀ (listed : Array Bool) (vs : Nat → Value) (a0 : Act) (w : World) (rest : List Nat) (C : World → Prop) (f : Nat), listed.size = ops.size → rest = (List.range ops.size).filter (fun i => (mk i).isT && !listed.getD i false) → C w →
      BraidZ P ops F QN z f rest (frameOf ops vs (fun j => !(mk j).isT || listed.getD j false) a0 ops.size) C → Region.ready .any ops listed = [] → Q .normal (frameOf ops vs (fun j => listed.getD j false) a0 ops.size) w := by
    intro listed vs a0 w rest C f hs hrest hC hw hr
    have hall := all_listed hl hs hr
    have : rest = [] := by
      rw [hrest, List.filter_eq_nil_iff]
      intro i hi
      simp [hall i (by simpa using hi)]
    subst this
    rw [frame_congr (M := fun j => !(mk j).isT || listed.getD j false) ops.size (fun j hj => by simp [hall j hj])]
    exact hQN _ _ (hw.fin w hC)
  intro fuel
  induction fuel with
  | zero =>
    intro listed vs a0 w rest C f _ hs hn _ _ hrest hC _ _ hw
    have hr : Region.ready .any ops listed = [] := by
      rw [List.eq_nil_iff_forall_not_mem]
      intro i hi
      obtain ⟨h0, o, ho, _⟩ := mem_ready.1 hi
      have : i ∈ (List.range ops.size).filter fun j => !listed.getD j true := List.mem_filter.2 ⟨by simpa using (Array.getElem?_eq_some_iff.1 ho).1, by simp [h0]⟩
      rw [List.eq_nil_of_length_eq_zero (Nat.le_zero.1 hn)] at this
      cases this
    exact ⟨hr, fin listed vs a0 w rest C f hs hrest hC hw hr⟩
  | succ fuel ih =>
    intro listed vs a0 w rest C f h00 hs hn hcld hvs hrest hC hCx hCF hw
    refine ⟨fin listed vs a0 w rest C f hs hrest hC hw, fun i hi => ?_⟩
    obtain ⟨h0, o, ho, hall⟩ := mem_ready.1 hi
    have hi' : i < ops.size := (Array.getElem?_eq_some_iff.1 ho).1
    have hsi : i < listed.size := by omega
    have hLi : listed.getD i false = false := by simpa [Array.getD_eq_getD_getElem?, hsi] using h0
    have hwl : ∀ j, waits ops i j = true → listed.getD j false = true := fun j hj => by
      obtain ⟨e, he, hb, rfl⟩ := (waits_spec ho).1 hj
      exact hall e he hb
    have hlw : ∀ j, waits ops j i = true → listed.getD j false = false := fun j hj => by
      cases hb : listed.getD j false with
      | false => rfl
      | true => rw [hcld j i hb hj] at hLi; cases hLi
    have hset := set_getD hsi
    cases hT : (mk i).isT with
    | false =>
      have hput : (ops[i]?).bind (·.dst) = o.dst := by rw [ho]; rfl
      have hwQ : vs i = vsQ i := hvs i hT
      replace hCF : ∀ w, C w → F w := hCF.resolve_right fun h => by rw [h i hi' hT] at hLi; cases hLi
      refine wpOp_fixed (b := frameQ ops mk vsQ a00 i) (v := vsQ i) ho (sel_of hl ho) ?_ (hCF w hC) (hq i o ho hT) ?_
      · intro t ht
        unfold frameQ
        refine frames_agree2 hd hl h00 ho (fun j hj hw => ⟨hwl j hw, ?_, ?_⟩) (fun j hj hw => ⟨hlw j hw, by simp; omega⟩) ht
        · simp [hj, hQT j (Nat.lt_trans hj hi'), hquiet i j hT hw]
        · exact hvs j (hquiet i j hT hw)
      · intro w' hx
        have hmore := frame_more hd (vs := vs) (L := fun j => listed.getD j false) (a0 := a0) hLi ops.size hi'
        rw [hput, hwQ] at hmore
        rw [← hmore, frame_congr (M := fun j => (listed.setIfInBounds i true).getD j false) ops.size (fun j _ => (hset j).symm)]
        refine ih _ vs a0 w' rest C f h00 (by simpa using hs) (set_count hsi hi' h0 hn) (set_closed hsi ho hall hcld) hvs ?_ (hCx w w' hC hx) hCx (.inl hCF) ?_
        · rw [hrest]
          refine List.filter_congr fun j _ => ?_
          rw [hset]
          by_cases e : j = i
          · subst e; simp [hT]
          · have : (j == i) = false := by simpa using e
            rw [this, Bool.false_or]
        · rw [frame_congr (M := fun j => !(mk j).isT || listed.getD j false) ops.size (fun j _ => by
            rw [hset]
            by_cases e : j = i
            · subst e; simp [hT]
            · have : (j == i) = false := by simpa using e
              rw [this, Bool.false_or])]
          exact hw
    | true =>
      have hput : (ops[i]?).bind (·.dst) = o.dst := by rw [ho]; rfl
      have hnQ : ∀ j, (mk j).isT = false → j ≠ i := fun j hj e => by subst e; rw [hT] at hj; cases hj
      have hmem : i ∈ rest := by rw [hrest]; exact List.mem_filter.2 ⟨by simpa using hi', by simp [hT, hLi]⟩
      have hnw : ∀ j ∈ rest, waits ops i j = false := fun j hj => by
        rw [hrest] at hj
        have hj2 := (List.mem_filter.1 hj).2
        simp only [Bool.and_eq_true, Bool.not_eq_true'] at hj2
        cases hw2 : waits ops i j with
        | false => rfl
        | true => rw [hwl j hw2] at hj2; cases hj2.2
      have hrest2 : rest.filter (· != i) = (List.range ops.size).filter (fun j => (mk j).isT && !(listed.setIfInBounds i true).getD j false) := by
        rw [hrest, List.filter_filter]
        refine List.filter_congr fun j _ => ?_
        rw [hset]
        by_cases e : j = i
        · subst e; simp
        · have : (j == i) = false := by simpa using e
          have h' : (j != i) = true := by simpa using e
          rw [this, h', Bool.false_or, Bool.true_and]
      obtain ⟨f, rfl⟩ : ∃ f', f = f' + 1 := by
        cases f with
        | zero => have h0 := hw.1; rw [h0] at hmem; cases hmem
        | succ f => exact ⟨f, rfl⟩
      have hw := hw.2 i hmem hnw o ho
      rw [hrest2] at hw
      have hLf : ∀ j, (!(mk j).isT || (listed.setIfInBounds i true).getD j false) = (j == i || (!(mk j).isT || listed.getD j false)) := fun j => by
        rw [hset]
        by_cases e : j = i
        · subst e; simp
        · have : (j == i) = false := by simpa using e
          rw [this]; simp
      have hgo : ∀ (v : Value) (w' : World) (ds : List Deferred) (C' : World → Prop), C' w' → (∀ w w', C' w → Ext w w' → C' w') → ((∀ w, C' w → F w) ∨ ∀ j, j < ops.size → (mk j).isT = false → (listed.setIfInBounds i true).getD j false = true) → BraidZ P ops F QN z f (List.filter (fun j => (mk j).isT && !(listed.setIfInBounds i true).getD j false) (List.range ops.size)) ((frameOf ops vs (fun j => !(mk j).isT || listed.getD j false) { a0 with defers := ds } ops.size).put o.dst v) C' →
          wpAny P .any ops Q fuel (listed.setIfInBounds i true) ((frameOf ops vs (fun j => listed.getD j false) { a0 with defers := ds } ops.size).put o.dst v) w' := by
        intro v w' ds C' hC' hCx' hCF' hw'
        obtain ⟨us, hus⟩ : ∃ us : Nat → Value, us = fun j => if j = i then v else vs j := ⟨_, rfl⟩
        have hui : us i = v := by rw [hus]; simp
        have huo : ∀ j, j ≠ i → us j = vs j := fun j hj => by rw [hus]; simp [hj]
        have m1 := frame_more hd (vs := us) (L := fun j => listed.getD j false) (a0 := { a0 with defers := ds }) hLi ops.size hi'
        have m2 := frame_more hd (vs := us) (L := fun j => !(mk j).isT || listed.getD j false) (a0 := { a0 with defers := ds }) (i := i) (by rw [hT, hLi]; rfl) ops.size hi'
        rw [hput, hui, frame_vsL (us := vs) (L := fun j => listed.getD j false) (fun j hj => huo j (fun e => by have hj : listed.getD j false = true := hj; rw [e, hLi] at hj; cases hj))] at m1
        rw [hput, hui, frame_vsL (us := vs) (L := fun j => !(mk j).isT || listed.getD j false) (fun j hj => huo j (fun e => by have hj : (!(mk j).isT || listed.getD j false) = true := hj; rw [e, hT, hLi] at hj; cases hj))] at m2
        rw [← m1, frame_congr (M := fun j => (listed.setIfInBounds i true).getD j false) ops.size (fun j _ => (hset j).symm)]
        rw [← m2, frame_congr (M := fun j => !(mk j).isT || (listed.setIfInBounds i true).getD j false) ops.size (fun j _ => (hLf j).symm)] at hw'
        exact ih _ us { a0 with defers := ds } w' _ C' f h00 (by simpa using hs) (set_count hsi hi' h0 hn) (set_closed hsi ho hall hcld)
          (fun j hj => by rw [huo j (hnQ j hj)]; exact hvs j hj) rfl hC' hCx' hCF' hw'
      have hab : ∀ t ∈ o.looksAt ops, (frameOf ops vs (fun j => listed.getD j false) a0 ops.size).tmps[t]? = (frameOf ops vs (fun j => !(mk j).isT || listed.getD j false) a0 ops.size).tmps[t]? := fun t ht =>
        frames_agree2 hd hl rfl ho (fun j hj hw => ⟨hwl j hw, by simp [hwl j hw], rfl⟩) (fun j hj hw => ⟨hlw j hw, by
          cases hTj : (mk j).isT with
          | true => simp [hlw j hw]
          | false =>
            have := hquiet j i hTj hw
            rw [hT] at this; cases this⟩) ht
      have e0 : ∀ (L : Nat → Bool) (ds : List Deferred), ({ frameOf ops vs L a0 ops.size with defers := ds } : Act) = frameOf ops vs L { a0 with defers := ds } ops.size := fun L ds => (frame_defers ops.size).symm
      have e1 : ∀ (L : Nat → Bool), (frameOf ops vs L a0 ops.size).defers = a0.defers := fun L => (frame_size ops.size).2
      have hzc : ∀ C' : World → Prop, (decide (z ≤ i) = true ∨ ∀ w, C' w → F w) → ((∀ w, C' w → F w) ∨ ∀ j, j < ops.size → (mk j).isT = false → (listed.setIfInBounds i true).getD j false = true) := fun C' h => h.elim (fun hz => .inr fun j hj hTj => by rw [hset, deps_closed hcld 6 i j hwl (hzd i j hi' hj hT (of_decide_eq_true hz) hTj), Bool.or_true]) .inl
      unfold wpOp
      simp only [ho]
      rw [wanted_agree hab]
      rcases hw with ⟨hwt, hw⟩ | ⟨hwt, hw⟩
      · rw [if_pos hwt]
        refine .inl (wp_transfer (exec_agree hl ho hab) (fun _ _ _ h => h.elim) (fun v w' h => ?_) (fun d w' h => ?_) (hw w hC))
        · obtain ⟨C', h1, h2, h3, h4⟩ := h
          exact hgo v w' a0.defers C' h1 h2 (hzc C' h3) h4
        · rw [e0, e1] at h ⊢
          obtain ⟨C', h1, h2, h3, h4⟩ := h
          exact hgo undef w' _ C' h1 h2 (hzc C' h3) h4
      · rw [if_neg (by rw [hwt]; simp)]
        exact hgo undef w a0.defers C hC hCx (hCF.imp id fun h j hj hTj => by rw [hset, h j hj hTj, Bool.or_true]) hw

/-- the numbers of the marked operations -/
def braidsOf (ms : List Mark) : List Nat := (List.range ms.length).filter fun i => (mkOf ms i).isT
/-- **A region of quiet operations and of others**, whatever order is drawn. -/
theorem any_region_braidz {a : Act} {w : World} {C : World → Prop} {Q : Exit → Act → World → Prop} {l : List Oper} {QN : Act → World → Prop} (ms : List Mark) (z : Nat) (F : World → Prop) (hQN : ∀ a w, QN a w → Q .normal a w) (hlen : l.length = ms.length) (hok : braidZ l.toArray (mkOf ms) z = true)
    (hC : C w) (hCx : ∀ w w', C w → Ext w w' → C w') (hCF : ∀ w, C w → F w)
    (h : Walk P l.toArray F (fun a' => BraidZ P l.toArray F QN z (braidsOf ms).length (braidsOf ms) a' C) ms l a) : wpAny P .any l.toArray Q l.toArray.size (Array.replicate l.toArray.size false) a w.drew := by
  have hok' := hok
  simp only [braidZ, Bool.and_eq_true] at hok'
  have hd : dstApart l.toArray = true := by have := hok'.2.1; simp only [fixedOk, Bool.and_eq_true] at this; exact this.1
  have hmk : ∀ j m, ms[j]? = some m → m = mkOf ms j := fun j m hj => by simp [mkOf, hj]
  have h0 : ∀ vs : Nat → Value, frameOf l.toArray vs (fun _ => false) a l.toArray.size = a := fun vs => by
    generalize l.toArray.size = n
    induction n with
    | zero => rfl
    | succ n ih => unfold frameOf; simpa using ih
  obtain ⟨vsQ, _, hK, hst⟩ := Walk.values (mk := mkOf ms) hd (a0 := a) l ms 0 (fun _ => undef) (by simp) (by simp) (fun j m hj => by rw [Nat.zero_add]; exact hmk j m hj) (by
    have : frameQ l.toArray (mkOf ms) (fun _ => undef) a 0 = a := by
      unfold frameQ
      rw [frame_congr (M := fun _ => false) _ (fun j _ => by simp)]
      exact h0 _
    rw [this]; exact h)
  have hq : ∀ i o, l.toArray[i]? = some o → (mkOf ms i).isT = false → (Region.wanted o (yielded l.toArray (frameQ l.toArray (mkOf ms) vsQ a i).tmps) = true ∧ StepOK P F o (frameQ l.toArray (mkOf ms) vsQ a i) (vsQ i)) ∨ (Region.wanted o (yielded l.toArray (frameQ l.toArray (mkOf ms) vsQ a i).tmps) = false ∧ vsQ i = undef) := by
    intro i o ho hT
    have hi : i < l.toArray.size := (Array.getElem?_eq_some_iff.1 ho).1
    have hh := List.all_eq_true.1 hok'.2.2 i (by simpa using hi)
    rw [Bool.and_eq_true] at hh
    have := hst i o (Nat.zero_le _) ho
    cases hmi : mkOf ms i with
    | q => rw [hmi] at this; exact this
    | p =>
      rw [hmi] at this
      rcases this with ⟨h1, h2⟩ | h
      · exact .inl ⟨h1, .inl fun w _ => h2 w⟩
      · exact .inr h
    | a cs t => rw [hmi] at hh; simp [Mark.isQ, Mark.isT] at hh
    | t => rw [hmi] at hT; cases hT
  have key := phaseZ (P := P) (F := F) (QN := QN) (mk := mkOf ms) (Q := Q) (a00 := a) (vsQ := vsQ) hok hQN hq l.toArray.size (Array.replicate l.toArray.size false) vsQ a w.drew ((List.range l.toArray.size).filter (fun i => (mkOf ms i).isT)) C (braidsOf ms).length rfl (by simp) (by
      have := List.length_filter_le (fun j => !(Array.replicate l.toArray.size false).getD j true) (List.range l.toArray.size)
      simpa using this) (fun i j hi => by rw [repl_false] at hi; cases hi) (fun _ _ => rfl) (List.filter_congr fun j _ => by rw [repl_false]; simp) (hCx w w.drew hC ((Ext.refl w).drew)) hCx (.inl hCF) ?_
  · rw [frame_congr (M := fun _ => false) l.toArray.size (fun j hj => repl_false _ _), h0] at key
    exact key
  · have e1 : frameQ l.toArray (mkOf ms) vsQ a l.toArray.size = frameOf l.toArray vsQ (fun j => !(mkOf ms j).isT || (Array.replicate l.toArray.size false).getD j false) a l.toArray.size := by
      unfold frameQ
      refine frame_congr _ fun j hj => ?_
      have hh := List.all_eq_true.1 hok'.2.2 j (by simpa using hj)
      rw [Bool.and_eq_true] at hh
      rw [repl_false, show decide (j < l.toArray.size) = true by simpa using hj]
      rcases (mkOf ms j).trio with ⟨a, b, c⟩ | ⟨a, b, c⟩ | ⟨a, b, c⟩ <;> simp [a, c] at hh ⊢
    rw [← e1]
    have e2 : (List.range l.toArray.size).filter (fun i => (mkOf ms i).isT) = braidsOf ms := by unfold braidsOf; rw [show l.toArray.size = ms.length by simp [hlen]]
    rw [e2]
    exact hK
theorem wp_region_braidz {a : Act} {w : World} {C : World → Prop} {Q : Exit → Act → World → Prop} {id : Nat} {l : List Oper} (ms : List Mark) (z : Nat) (F : World → Prop) (hm : P.follows .mixedOrders = true) (hlen : l.length = ms.length) (hok : braidZ l.toArray (mkOf ms) z = true)
    (hC : C w) (hCx : ∀ w w', C w → Ext w w' → C w') (hCF : ∀ w, C w → F w)
    (h : Walk P l.toArray F (fun a' => BraidZ P l.toArray F (fun a w => Q .normal a w) z (braidsOf ms).length (braidsOf ms) a' C) ms l a) : (Code.region id l.toArray true).wp P Q a w :=
  wp_region_any hm (any_region_braidz ms z F (fun _ _ h => h) hlen hok hC hCx hCF h)

variable {B : Nat} {w0 : World} {L : List Item} {o : Oper} {a : Act} {K : Act → (World → Prop) → Prop}
theorem ZStep.skip (hw : Region.wanted o (yielded ops a.tmps) = false) (h : K (a.put o.dst undef) (fun W => Hp B w0 W L)) : ZStep P ops F zc K o a (fun W => Hp B w0 W L) := .inr ⟨hw, h⟩
/-- an operation that only computes or reads -/
theorem ZStep.val {v : Value} (hw : Region.wanted o (yielded ops a.tmps) = true) (hF : ∀ w, Hp B w0 w L → F w) (hr : ∀ w, Hp B w0 w L → (execOp a.eval o).run P w = .ok (.value v) w)
    (h : K (a.put o.dst v) (fun W => Hp B w0 W L)) : ZStep P ops F zc K o a (fun W => Hp B w0 W L) := by
  refine .inl ⟨hw, fun w hS => ?_⟩
  unfold Oper.wp
  rw [hr w hS]
  exact ⟨_, hS, fun _ _ h hx => h.step hx, .inr hF, h⟩
/-- an operation that makes a block -/
theorem ZStep.alloc {cs : List Value} {t : TypeId} {f : Nat → Value} (hw : Region.wanted o (yielded ops a.tmps) = true) (hF : ∀ w, Hp B w0 w L → F w) (hr : ∀ w, Hp B w0 w L → (execOp a.eval o).run P w = .ok (.value (f w.heap.size)) (w.alloc (.cells cs.toArray t)))
    (h : ∀ g, K (a.put o.dst (f g)) (fun W => Hp B w0 W (.blk g cs t :: L))) : ZStep P ops F zc K o a (fun W => Hp B w0 W L) := by
  refine .inl ⟨hw, fun w hS => ?_⟩
  unfold Oper.wp
  rw [hr w hS]
  exact ⟨fun W => Hp B w0 W (.blk w.heap.size cs t :: L), hS.alloc cs t, fun _ _ h hx => h.step hx, .inr fun W hW => hF W hW.tail, h _⟩
/-- a call -/
theorem ZStep.call {f : FuncId} {args : Array Value} (hw : Region.wanted o (yielded ops a.tmps) = true) (hr : ∀ w, Hp B w0 w L → (execOp a.eval o).run P w = .ok (.enter f args) w)
    (hc : ∀ w, Hp B w0 w L → Calls P f args w fun e w' => ∃ (v : Value) (L' : List Item), e = .returned v ∧ Hp B w0 w' L' ∧ (∀ w, Hp B w0 w L' → F w) ∧ K (a.put o.dst v) (fun W => Hp B w0 W L')) :
    ZStep P ops F zc K o a (fun W => Hp B w0 W L) := by
  refine .inl ⟨hw, fun w hS => ?_⟩
  unfold Oper.wp
  rw [hr w hS]
  refine (hc w hS).mono fun e w' ⟨v, L', h1, h2, h3, h4⟩ => ?_
  subst h1
  exact ⟨_, h2, fun _ _ h hx => h.step hx, .inr h3, h4⟩
/-- append of elements that lie at ad -/
theorem ZStep.append {t e : TypeId} {size bytes n m c cap : Nat} {A : Option Addr} {xs news : List Value} {L0 : List Item} (hE : Elem P t e size bytes) (hw : Region.wanted o (yielded ops a.tmps) = true) (s x : Operand)
    (ho : o.op = .call { callee := .builtin .append, args := #[s, x], argTypes := #[t, t] }) (i : Nat) (hi : L[i]? = some (.row e size A n cap xs)) (hL0 : L.eraseIdx i = L0) (hs : a.eval s = .slice A n cap) (ad : Addr) (hx : a.eval x = .slice (some ad) m c) (hl : news.length = m * size)
    (hnews : ∀ w, Hp B w0 w L → ∀ j u, news[j]? = some u → w.cell? (ad.add j) = some u) (h1 : ∀ u ∈ news, u.oneCell' = true) (hn : (n + m) * bytes ≤ 140737488355328) (hm : n + m ≤ 140737488355328)
    (hF : ∀ w, Hp B w0 w L0 → F w) (h : ∀ A' cap', K (a.put o.dst (.slice A' (n + m : Nat) cap')) (fun W => Hp B w0 W (.row e size A' (n + m) cap' (xs ++ news) :: L0))) :
    ZStep P ops F zc K o a (fun W => Hp B w0 W L) := by
  subst hL0
  refine .inl ⟨hw, fun w hS => ?_⟩
  obtain ⟨A', cap', w', hr, h2⟩ := run_append_hp (P := P) (c := c) (ty := o.type) hE (hS.front i hi) ad hl (hnews w hS) h1 hn hm
  unfold Oper.wp execOp
  simp only [ho, resolve, invoke, builtin, Sem.run_bind, Sem.run_pure, Result.andThen_ok, List.map_toArray, List.map_cons, List.map_nil, hs, hx, hr]
  exact ⟨_, h2, fun _ _ h hx => h.step hx, .inr fun W hW => hF W hW.tail, h A' cap'⟩
/-- a store that leaves what the quiet ones read -/
theorem ZStep.turnF {L' : List Item} (hw : Region.wanted o (yielded ops a.tmps) = true) (hr : ∀ w, Hp B w0 w L → ∃ w', ((execOp a.eval o).run P w = .ok .skip w' ∨ (execOp a.eval o).run P w = .ok (.value undef) w') ∧ Hp B w0 w' L')
    (hF : ∀ w, Hp B w0 w L' → F w) (h : K (a.put o.dst undef) (fun W => Hp B w0 W L')) : ZStep P ops F zc K o a (fun W => Hp B w0 W L) := by
  refine .inl ⟨hw, fun w hS => ?_⟩
  obtain ⟨w', hrun, h2⟩ := hr w hS
  unfold Oper.wp
  rcases hrun with hrun | hrun <;> rw [hrun] <;> exact ⟨_, h2, fun _ _ h hx => h.step hx, .inr hF, h⟩
/-- a store, behind all quiet ones -/
theorem ZStep.turn {L' : List Item} (hw : Region.wanted o (yielded ops a.tmps) = true) (hr : ∀ w, Hp B w0 w L → ∃ w', ((execOp a.eval o).run P w = .ok .skip w' ∨ (execOp a.eval o).run P w = .ok (.value undef) w') ∧ Hp B w0 w' L')
    (h : K (a.put o.dst undef) (fun W => Hp B w0 W L')) : ZStep P ops F true K o a (fun W => Hp B w0 W L) := by
  refine .inl ⟨hw, fun w hS => ?_⟩
  obtain ⟨w', hrun, h2⟩ := hr w hS
  unfold Oper.wp
  rcases hrun with hrun | hrun <;> rw [hrun] <;> exact ⟨_, h2, fun _ _ h hx => h.step hx, .inl rfl, h⟩
/-- an operation that only computes or reads, behind all quiet ones -/
theorem ZStep.valz {v : Value} (hw : Region.wanted o (yielded ops a.tmps) = true) (hr : ∀ w, Hp B w0 w L → (execOp a.eval o).run P w = .ok (.value v) w)
    (h : K (a.put o.dst v) (fun W => Hp B w0 W L)) : ZStep P ops F true K o a (fun W => Hp B w0 W L) := by
  refine .inl ⟨hw, fun w hS => ?_⟩
  unfold Oper.wp
  rw [hr w hS]
  exact ⟨_, hS, fun _ _ h hx => h.step hx, .inl rfl, h⟩
theorem wp_region_braidz_hp {a : Act} {w : World} {Q : Exit → Act → World → Prop} {id : Nat} {l : List Oper} (ms : List Mark) (z : Nat) (LF : List Item) (hm : P.follows .mixedOrders = true) (hlen : l.length = ms.length) (hok : braidZ l.toArray (mkOf ms) z = true)
    (hS : Hp B w0 w L) (hLF : ∀ w, Hp B w0 w L → Hp B w0 w LF)
    (h : Walk P l.toArray (fun W => Hp B w0 W LF) (fun a' => BraidZ P l.toArray (fun W => Hp B w0 W LF) (fun a w => Q .normal a w) z (braidsOf ms).length (braidsOf ms) a' (fun W => Hp B w0 W L)) ms l a) : (Code.region id l.toArray true).wp P Q a w :=
  wp_region_braidz ms z (fun W => Hp B w0 W LF) hm hlen hok hS (fun _ _ h hx => h.step hx) hLF h
end
end Go.Proofs.YtlgidjanmaijaaaGreatDoor

/- As Braid2, where three operations may come next. For any program. -/
namespace Go.Proofs.YtlgidjanmaijaaaGreatDoor
set_option linter.all false
open Go.RowKit
section
variable {P : Program} {ops : Array Oper} {F : World → Prop} {QN : Act → World → Prop} {z : Nat} {zc : Bool}
end
end Go.Proofs.YtlgidjanmaijaaaGreatDoor

/- In a drawn region: an operation that only computes may be taken first, wherever it stands. For any program. -/
namespace Go.Proofs.YtlgidjanmaijaaaGreatDoor
set_option linter.all false
open Go.RowKit
section
variable {P : Program} {ops : Array Oper} {F : World → Prop} {QN : Act → World → Prop} {z : Nat}
theorem put_look {a : Act} {d : Option Tmp} {u : Value} {t : Tmp} (h : d ≠ some t) : (a.put d u).tmps[t]? = a.tmps[t]? := by
  cases d with
  | none => rfl
  | some d =>
    show (a.tmps.setIfInBounds d u)[t]? = _
    rw [Array.getElem?_setIfInBounds_ne (by intro e; exact h (by rw [e]))]
theorem put_comm {a : Act} {d e : Option Tmp} {u v : Value} (h : e = none ∨ e ≠ d) : (a.put d u).put e v = (a.put e v).put d u := by
  cases d with
  | none => cases e <;> rfl
  | some d =>
    cases e with
    | none => rfl
    | some e =>
      have hne : d ≠ e := fun x => (h.resolve_left (by simp)) (by rw [x])
      show ({ a with tmps := (a.tmps.setIfInBounds d u).setIfInBounds e v } : Act) = { a with tmps := (a.tmps.setIfInBounds e v).setIfInBounds d u }
      rw [Array.setIfInBounds_comm _ _ hne]
theorem put_def {a : Act} {d : Option Tmp} {u : Value} {ds : List Deferred} : ({ (a.put d u) with defers := ds } : Act) = ({ a with defers := ds } : Act).put d u := by cases d <;> rfl
/-- an operation that neither looks at what the others make nor is looked at -/
def earlyOk (ops : Array Oper) (i : Nat) (rest : List Nat) : Bool := match ops[i]? with
  | none => false
  | some o => rest.all fun k => k == i || waits ops k i || (match ops[k]? with
    | none => true
    | some p => (p.looksAt ops).all (fun t => o.dst != some t) && (o.looksAt ops).all (fun t => p.dst != some t) && (p.dst == none || p.dst != o.dst))
theorem earlyOk_spec {i k : Nat} {rest : List Nat} {o p : Oper} (h : earlyOk ops i rest = true) (ho : ops[i]? = some o) (hk : k ∈ rest) (hki : k ≠ i) (hw : waits ops k i = false) (hp : ops[k]? = some p) :
    (∀ t ∈ p.looksAt ops, o.dst ≠ some t) ∧ (∀ t ∈ o.looksAt ops, p.dst ≠ some t) ∧ (p.dst = none ∨ p.dst ≠ o.dst) := by
  unfold earlyOk at h
  rw [ho] at h
  simp only at h
  have h1 := List.all_eq_true.1 h k hk
  rw [hw, hp, beq_false_of_ne hki, Bool.false_or, Bool.false_or] at h1
  simp only [Bool.and_eq_true, Bool.or_eq_true, List.all_eq_true, bne_iff_ne, beq_iff_eq] at h1
  exact ⟨h1.1.1, h1.1.2, h1.2⟩
theorem earlyOk_sub {i : Nat} {rest rest' : List Nat} (h : earlyOk ops i rest = true) (hs : ∀ k ∈ rest', k ∈ rest) : earlyOk ops i rest' = true := by
  unfold earlyOk at *
  split
  · rename_i e; rw [e] at h; cases h
  · rename_i o e
    rw [e] at h
    exact List.all_eq_true.2 fun k hk => List.all_eq_true.1 h k (hs k hk)
theorem BraidZ.early (hl : looksOk ops = true) {i : Nat} {o : Oper} {v : Value} (ho : ops[i]? = some o) (hzi : z ≤ i) : ∀ (f : Nat) (rest : List Nat) (a : Act) (C : World → Prop), i ∈ rest → earlyOk ops i rest = true →
    ((Region.wanted o (yielded ops a.tmps) = true ∧ PureOK P o a v) ∨ (Region.wanted o (yielded ops a.tmps) = false ∧ v = undef)) → (∀ w w', C w → Ext w w' → C w') →
    BraidZ P ops F QN z f (rest.filter (· != i)) (a.put o.dst v) C → BraidZ P ops F QN z (f + 1) rest a C := by
  intro f
  induction f with
  | zero =>
    intro rest a C hi hok hv hC h
    refine ⟨fun e => (by rw [e] at hi; cases hi), fun k hk hw p hp => ?_⟩
    have hki : k = i := by
      by_cases e : k = i
      · exact e
      · exfalso
        have : k ∈ rest.filter (· != i) := List.mem_filter.2 ⟨hk, by simpa using e⟩
        rw [h.1] at this
        cases this
    subst hki
    obtain rfl : o = p := Option.some.inj (ho.symm.trans hp)
    rcases hv with ⟨h1, h2⟩ | ⟨h1, rfl⟩
    · refine .inl ⟨h1, fun w hw => ?_⟩
      unfold Oper.wp
      rw [h2 w]
      exact ⟨C, hw, hC, .inl (decide_eq_true hzi), h⟩
    · exact .inr ⟨h1, h⟩
  | succ f ih =>
    intro rest a C hi hok hv hC h
    refine ⟨fun e => (by rw [e] at hi; cases hi), fun k hk hw p hp => ?_⟩
    by_cases hki : k = i
    · subst hki
      obtain rfl : o = p := Option.some.inj (ho.symm.trans hp)
      rcases hv with ⟨h1, h2⟩ | ⟨h1, rfl⟩
      · refine .inl ⟨h1, fun w hw => ?_⟩
        unfold Oper.wp
        rw [h2 w]
        exact ⟨C, hw, hC, .inl (decide_eq_true hzi), h⟩
      · exact .inr ⟨h1, h⟩
    · obtain ⟨s1, s2, s3⟩ := earlyOk_spec hok ho hk hki (hw i hi) hp
      have hm : k ∈ rest.filter (· != i) := List.mem_filter.2 ⟨hk, by simpa using hki⟩
      have hz := h.2 k hm (fun j hj => hw j (List.mem_filter.1 hj).1) p hp
      have hag : ∀ (b : Act), b.tmps = a.tmps → ∀ t ∈ p.looksAt ops, (b.put o.dst v).tmps[t]? = a.tmps[t]? := fun b hb t ht => by rw [put_look (s1 t ht), hb]
      have hii : i ∈ rest.filter (· != k) := List.mem_filter.2 ⟨hi, by simpa using fun e : i = k => hki e.symm⟩
      have hok2 : earlyOk ops i (rest.filter (· != k)) = true := earlyOk_sub hok fun j hj => (List.mem_filter.1 hj).1
      have hfl : (rest.filter (· != i)).filter (· != k) = (rest.filter (· != k)).filter (· != i) := by
        rw [List.filter_filter, List.filter_filter]
        exact List.filter_congr fun x _ => Bool.and_comm _ _
      have hv2 : ∀ (b : Act) (u : Value), b.tmps = a.tmps → (Region.wanted o (yielded ops (b.put p.dst u).tmps) = true ∧ PureOK P o (b.put p.dst u) v) ∨ (Region.wanted o (yielded ops (b.put p.dst u).tmps) = false ∧ v = undef) := fun b u hb => by
        have hg : ∀ t ∈ o.looksAt ops, (b.put p.dst u).tmps[t]? = a.tmps[t]? := fun t ht => by rw [put_look (s2 t ht), hb]
        rw [wanted_agree hg]
        rcases hv with ⟨h1, h2⟩ | ⟨h1, h2⟩
        · refine .inl ⟨h1, fun w => ?_⟩
          rw [exec_agree hl ho hg]
          exact h2 w
        · exact .inr ⟨h1, h2⟩
      have hgo : ∀ (b : Act) (u : Value) (C' : World → Prop), b.tmps = a.tmps → (∀ w w', C' w → Ext w w' → C' w') → BraidZ P ops F QN z f ((rest.filter (· != i)).filter (· != k)) ((b.put o.dst v).put p.dst u) C' → BraidZ P ops F QN z (f + 1) (rest.filter (· != k)) (b.put p.dst u) C' := fun b u C' hb hC' hB => by
        refine ih _ _ _ hii hok2 (hv2 b u hb) hC' ?_
        rw [hfl, put_comm s3] at hB
        exact hB
      rcases hz with ⟨hwt, hz⟩ | ⟨hwt, hz⟩
      · refine .inl ⟨by rw [← wanted_agree (hag a rfl)]; exact hwt, fun w hCw => ?_⟩
        refine wp_transfer (a := a.put o.dst v) (exec_agree hl hp fun t ht => (hag a rfl t ht).symm) (fun _ _ _ h => h.elim) (fun u w' h => ?_) (fun d w' h => ?_) (hz w hCw)
        · obtain ⟨C', h1, h2, h3, h4⟩ := h
          exact ⟨C', h1, h2, h3, hgo a u C' rfl h2 h4⟩
        · obtain ⟨C', h1, h2, h3, h4⟩ := h
          refine ⟨C', h1, h2, h3, hgo { a with defers := d :: a.defers } undef C' rfl h2 ?_⟩
          rw [put_def] at h4
          rw [show (a.put o.dst v).defers = a.defers by cases o.dst <;> rfl] at h4
          exact h4
      · refine .inr ⟨by rw [← wanted_agree (hag a rfl)]; exact hwt, ?_⟩
        exact hgo a undef C rfl hC hz
/-- an operation that only computes, taken first -/
def EStep (P : Program) (ops : Array Oper) (K : Act → Prop) (o : Oper) (a : Act) : Prop :=
  ∃ v, ((Region.wanted o (yielded ops a.tmps) = true ∧ PureOK P o a v) ∨ (Region.wanted o (yielded ops a.tmps) = false ∧ v = undef)) ∧ K (a.put o.dst v)
theorem EStep.val {K : Act → Prop} {o : Oper} {a : Act} {v : Value} (hw : Region.wanted o (yielded ops a.tmps) = true) (hp : PureOK P o a v) (h : K (a.put o.dst v)) : EStep P ops K o a := ⟨v, .inl ⟨hw, hp⟩, h⟩
theorem EStep.skip {K : Act → Prop} {o : Oper} {a : Act} (hw : Region.wanted o (yielded ops a.tmps) = false) (h : K (a.put o.dst undef)) : EStep P ops K o a := ⟨undef, .inr ⟨hw, rfl⟩, h⟩
theorem BraidZ.earlyN {i f : Nat} {o : Oper} {rest : List Nat} {a : Act} {C : World → Prop} (hl : looksOk ops = true) (hz : decide (z ≤ i) = true) (hi : rest.contains i = true) (hok : earlyOk ops i rest = true) (ho : ops[i]? = some o) (hC : ∀ w w', C w → Ext w w' → C w')
    (h : EStep P ops (fun a' => BraidZ P ops F QN z f (rest.filter (· != i)) a' C) o a) : BraidZ P ops F QN z (f + 1) rest a C := by
  obtain ⟨v, hv, hB⟩ := h
  exact BraidZ.early hl ho (of_decide_eq_true hz) f rest a C (by simpa using hi) hok hv hC hB
end
theorem fill_from : ∀ (l : List Value) (k : Nat) (cells : Array Value), k + l.length = cells.size → ((l.zipIdx k).foldl (fun cs (x : Value × Nat) => cs.setIfInBounds (0 + x.2) x.1) cells).toList = cells.toList.take k ++ l
  | [], k, cells, h => by
    simp only [List.zipIdx_nil, List.foldl_nil, List.append_nil]
    rw [List.take_of_length_le (by simp at h ⊢; omega)]
  | c :: l, k, cells, h => by
    rw [List.length_cons] at h
    rw [List.zipIdx_cons, List.foldl_cons, fill_from l (k + 1) _ (by rw [Array.size_setIfInBounds]; omega), Nat.zero_add, Array.toList_setIfInBounds, List.take_add_one, List.getElem?_set_self (by rw [Array.length_toList]; omega), List.take_set_of_le (Nat.le_refl k)]
    simp
theorem run_build1 {P : Program} {t e : TypeId} {size bytes : Nat} (hE : Elem P t e size bytes) (v : Value) (us : List Value) (hv : v.cells = us.toArray) (hl : us.length = size) (hz : size ≤ 1000) (w : World) :
    (Instr.buildSlice t 1 #[(0, v)]).run P w = .ok (.slice (some ⟨w.heap.size, 0, none⟩) (1 : Nat) 1) (w.alloc (.cells us.toArray e)) := by
  obtain ⟨ie, z, h1, h2, h3, _, h5⟩ := hE.info
  have hpos := hE.pos
  refine run_buildSlice w t e 1 #[(0, v)] us.toArray ie z hE.under h1 h2 (by rw [h3]; omega) (by rw [h3]; omega) ?_
  have hs : v.cells.size = ie.size := by rw [hv, h3, ← hl]; simp
  show Instr.fill _ _ [(0, v)] = _
  unfold Instr.fill
  simp only [Nat.zero_mul, Nat.one_mul]
  rw [if_neg (by simp [hs])]
  unfold Instr.fill
  refine congrArg some (Array.toList_inj.1 ?_)
  have := fill_from us 0 ((Array.range ie.size).map fun i => z.cells[i % z.cells.size]!) (by rw [Nat.zero_add, hl, ← h3]; simp)
  rw [hv]
  rw [List.take_zero, List.nil_append] at this
  rw [← Array.foldl_toList, Array.toList_zipIdx]
  exact this
theorem ZStep.build1 {P : Program} {ops : Array Oper} {F : World → Prop} {zc : Bool} {K : Act → (World → Prop) → Prop} {o : Oper} {a : Act} {B : Nat} {w0 : World} {L : List Item} {t e : TypeId} {size bytes : Nat} {x : Operand} {us : List Value} (hE : Elem P t e size bytes)
    (hw : Region.wanted o (yielded ops a.tmps) = true) (hF : ∀ w, Hp B w0 w L → F w) (ho : o.op = .buildSlice t 1 #[(0, x)]) (hx : (a.eval x).cells = us.toArray) (hl : us.length = size) (hz : size ≤ 1000)
    (h : ∀ g, K (a.put o.dst (.slice (some ⟨g, 0, none⟩) (1 : Nat) 1)) (fun W => Hp B w0 W (.blk g us e :: L))) : ZStep P ops F zc K o a (fun W => Hp B w0 W L) := by
  refine ZStep.alloc (cs := us) (t := e) (f := fun g => .slice (some ⟨g, 0, none⟩) (1 : Nat) 1) hw hF (fun w hS => ?_) h
  have hr := run_build1 hE (a.eval x) us hx hl hz w
  unfold execOp
  rw [ho]
  simp only [List.map_toArray, List.map_cons, List.map_nil, Sem.run_bind, hr, Result.andThen_ok]
  rfl
end Go.Proofs.YtlgidjanmaijaaaGreatDoor

/- a map that the call owns, in the walk. -/
namespace Go.Proofs.YtlgidjanmaijaaaGreatDoor
set_option linter.all false
open Go.RowKit
open Go.Maps (Keyed)
-- the map in memory
/-- the object of a map that reads as D -/
def MFit (P : Program) (k e : TypeId) (n : Nat) (D : DataW Unit) (o : Obj) : Prop := ∃ es clock, o = .map es clock ∧ Go.WideElems.Fit P k (plainElem (H := Unit) P e) es clock ∧ es.size ≤ n ∧ D = .map ((es.toList.map (Go.WideElems.rg P k (plainElem (H := Unit) P e))).foldr DataW.insert [])
section
variable {P : Program} {B : Nat} {w0 w : World} {L : List Item} {g n : Nat} {o : Obj} {k e : TypeId} {D : DataW Unit}
theorem Hp.owns (h : Hp B w0 w (.ob g o :: L)) (hm : MFit P k e n D o) : w.ownsMap P k (plainElem (H := Unit) P e) g n D := by
  obtain ⟨es, clock, rfl, h1, h2, h3⟩ := hm
  exact ⟨es, clock, h.head.2, h1, h2, h3⟩
theorem Hp.mapTurn {w' : World} {n' : Nat} {D' : DataW Unit} (h : Hp B w0 w (.ob g o :: L)) (hg : w.grownBy w' (some g)) (hm : w'.ownsMap P k (plainElem (H := Unit) P e) g n' D') : ∃ o', MFit P k e n' D' o' ∧ Hp B w0 w' (.ob g o' :: L) := by
  obtain ⟨es, clock, h0, h1, h2, h3⟩ := hm
  exact ⟨.map es clock, ⟨es, clock, rfl, h1, h2, h3⟩, h.turn hg (.inr rfl) ⟨h.head.1, h0⟩ (.inl rfl)⟩
end
section
variable {P : Program} {ops : Array Oper} {Q : Exit → Act → World → Prop} {B : Nat} {w0 w : World} {L : List Item} {g n : Nat} {ob : Obj} {k e : TypeId} {D : DataW Unit} {o : Oper} {rest : List Oper} {a : Act}
theorem wpList_makeMap_hp {t : TypeId} (hgd : o.guard = none) (ho : o.op = .makeMap t none) (h : Hp B w0 w L)
    (kk : ∀ g w' ob, MFit P k e 0 (.map []) ob → Hp B w0 w' (.ob g ob :: L) → wpList P ops Q rest (a.put o.dst (.map (some g))) w') : wpList P ops Q (o :: rest) a w := by
  refine wpList_plain hgd fun K hK => ?_
  obtain ⟨es, clock, h0, h1, h2, h3⟩ := World.ownsMap_made w P k (plainElem (H := Unit) P e)
  have hr : (Instr.makeMap t none).run P w = .ok (.map (some w.heap.size)) (w.alloc (.map #[] 0)) := rfl
  unfold Oper.wp execOp
  simp only [ho, Option.map_none, Sem.run_bind, Sem.run_pure, Result.andThen_ok, hr]
  exact hK _ _ (kk _ _ _ ⟨es, clock, rfl, h1, h2, h3⟩ ((h.old _).cons (x := .ob w.heap.size (.map es clock)) ⟨h.base, h0⟩ (h.fresh rfl (Nat.le_refl _))))
theorem wpList_mapPut_hp {t : TypeId} (hgd : o.guard = none) (m x v : Operand) (hop : o.op = .mapUpdate t m x v ∨ o.op = .insert t m x v) (Ky : Keyed P k) (ht : P.underlying t = some (.map k e)) (i : Nat) (hf : MFit P k e n D ob) (h : Hp B w0 w L) (hi : L[i]? = some (.ob g ob)) (hm : a.eval m = .map (some g)) (key val : Value) (kl : Lit) (hx : a.eval x = key) (hv : a.eval v = val) (hkey : keyOf P k key = some kl) (d : DataW Unit) (hval : plainElem P e val = some (d, [])) (hn : n < maxLen)
    (kk : ∀ ob' w', MFit P k e (n + 1) (D.put kl d) ob' → Hp B w0 w' (.ob g ob' :: L.eraseIdx i) → wpList P ops Q rest (a.put o.dst undef) w') : wpList P ops Q (o :: rest) a w := by
  refine wpList_plain hgd fun K hK => ?_
  have h' := h.front i hi
  obtain ⟨w', hrun, r1, r2⟩ := (h'.owns hf).update Ky ht hn hkey hval
  obtain ⟨ob', h1, h2⟩ := h'.mapTurn r2 r1
  unfold Oper.wp
  rcases hop with hop | hop
  · simp [execOp, hop, hm, hx, hv, hrun, Result.andThen]
    exact hK _ _ (kk _ _ h1 h2)
  · simp [execOp, hop, hm, hx, hv, hrun, Result.andThen]
    exact hK _ _ (kk _ _ h1 h2)
end
end Go.Proofs.YtlgidjanmaijaaaGreatDoor

/- a map from strings to strings that the call owns, nil or not; what it reads as; ranging over it. For any program. -/
namespace Go.Proofs.YtlgidjanmaijaaaGreatDoor
set_option linter.all false
open Go.RowKit
open Go.Maps (Keyed)
/-- a string as a key, as an element -/
abbrev sk (s : ByteArray) : Lit := .string s.data.toList
abbrev sv (s : ByteArray) : DataW Unit := .lit (sk s)
/-- is the key there; what is there (nothing, if it is not) -/
def bhas (D : DataW Unit) (s : ByteArray) : Bool := Maps.has D (sk s)
def bget (D : DataW Unit) (s : ByteArray) : ByteArray := match D.atKey (sk s) (sv ⟨#[]⟩) with
  | .lit (.string l) => ⟨⟨l⟩⟩
  | _ => ⟨#[]⟩
theorem ba_eq {s t : ByteArray} (h : s.data.toList = t.data.toList) : s = t := by
  obtain ⟨⟨a⟩⟩ := s
  obtain ⟨⟨b⟩⟩ := t
  simp at h
  rw [h]
theorem sk_inj {s t : ByteArray} (h : sk s = sk t) : s = t := ba_eq (by injection h)
theorem bhas_put_same {D : DataW Unit} (hD : Maps.IsMap D) (k v : ByteArray) : bhas (D.put (sk k) (sv v)) k = true := Maps.has_put_same (k := sk k) hD trivial _
theorem bhas_put_other {D : DataW Unit} {k k' : ByteArray} (h : k' ≠ k) (v : ByteArray) : bhas (D.put (sk k) (sv v)) k' = bhas D k' := Maps.has_put_other (fun e => h (sk_inj e)) _
theorem bget_put_same {D : DataW Unit} (hD : Maps.IsMap D) (k v : ByteArray) : bget (D.put (sk k) (sv v)) k = v := by
  unfold bget
  rw [Maps.atKey_put_same (k := sk k) hD trivial]
theorem bget_put_other {D : DataW Unit} {k k' : ByteArray} (h : k' ≠ k) (v : ByteArray) : bget (D.put (sk k) (sv v)) k' = bget D k' := by
  unfold bget
  rw [Maps.atKey_put_other (fun e => h (sk_inj e))]
theorem bget_none {D : DataW Unit} {k : ByteArray} (h : bhas D k = false) : bget D k = ⟨#[]⟩ := by
  unfold bget
  rw [Maps.atKey_of_not_has h]
section
variable {P : Program} {ops : Array Oper} {Q : Exit → Act → World → Prop} {B : Nat} {w0 w w' : World} {L : List Item} {g n : Nat} {ob : Obj} {k e : TypeId} {D : DataW Unit} {o : Oper} {rest : List Oper} {a : Act} {mo : Option Nat}
/-- the map's object, if there is one; nil reads as empty -/
def MO (P : Program) (k e : TypeId) (n : Nat) (D : DataW Unit) (mo : Option Nat) (ob : Obj) : Prop := (mo = none ∧ D = .map []) ∨ (∃ g, mo = some g ∧ MFit P k e n D ob)
theorem Hp.mpOb (h : Hp B w0 w (.mp (some g) ob :: L)) : Hp B w0 w (.ob g ob :: L) :=
  h.turn ((Ext.refl w).grownBy none) (.inl rfl) (h.head g rfl) (.inl rfl)
theorem Hp.obMp (h : Hp B w0 w (.ob g ob :: L)) : Hp B w0 w (.mp (some g) ob :: L) :=
  h.turn ((Ext.refl w).grownBy none) (.inl rfl) (fun g' e => by cases e; exact h.head) (.inl rfl)
theorem Hp.nilMp (h : Hp B w0 w L) (o : Obj) : Hp B w0 w (.mp none o :: L) := h.cons (fun g e => by cases e) fun _ _ => .inl rfl
theorem MFit.isMap (hm : MFit P k e n D ob) : Maps.IsMap D := by
  obtain ⟨es, clock, rfl, h1, h2, h3⟩ := hm
  exact ⟨_, h3⟩
theorem MO.isMap (hm : MO P k e n D mo ob) : Maps.IsMap D := by
  rcases hm with ⟨_, rfl⟩ | ⟨g, _, hm⟩
  · exact Maps.isMap_empty
  · exact hm.isMap
theorem Hp.ownsMp (h : Hp B w0 w L) {i : Nat} (hi : L[i]? = some (.mp (some g) ob)) (hm : MFit P k e n D ob) : w.ownsMap P k (plainElem (H := Unit) P e) g n D := by
  obtain ⟨es, clock, rfl, h1, h2, h3⟩ := hm
  have := h.own _ (List.mem_of_getElem? hi)
  exact ⟨es, clock, (this g rfl).2, h1, h2, h3⟩
theorem Hp.ownsOb (h : Hp B w0 w L) {i : Nat} (hi : L[i]? = some (.ob g ob)) (hm : MFit P k e n D ob) : w.ownsMap P k (plainElem (H := Unit) P e) g n D := by
  obtain ⟨es, clock, rfl, h1, h2, h3⟩ := hm
  have := h.own _ (List.mem_of_getElem? hi)
  exact ⟨es, clock, this.2, h1, h2, h3⟩
theorem look_str {t : TypeId} (h : w.ownsMap P k (plainElem (H := Unit) P e) g n D) (Ky : Keyed P k) (ht : P.underlying t = some (.map k e)) (he : P.underlying e = some .string) (hz : (zeroValue e).run P w = .ok (.string ⟨#[]⟩) w) (s : ByteArray) (hkey : keyOf P k (.string s) = some (sk s)) :
    (Instr.lookup t (.map (some g)) (.string s) true).run P w = .ok (.tuple #[.string (bget D s), .bool (bhas D s)]) w := by
  obtain ⟨v, ps, hrun, hv⟩ := h.look_ok Ky ht hz (plainElem_string he (s := ⟨#[]⟩) (by unfold maxLen; decide)) hkey
  obtain ⟨c, rfl, hc, _⟩ := plainElem_string_inv he hv
  rw [hrun]
  have hb : bget D s = c := by
    have := congrArg Prod.fst hc
    simp only at this
    unfold bget
    rw [show (sv ⟨#[]⟩ : DataW Unit) = .lit (.string (ByteArray.mk #[]).data.toList) from rfl, this]
  rw [hb]
  rfl
/-- 'v, ok := m[s]', m nil or not -/
theorem wpList_lookup_mps {t : TypeId} (hgd : o.guard = none) (m x : Operand) (hop : o.op = .lookup t m x true) (Ky : Keyed P k) (ht : P.underlying t = some (.map k e)) (he : P.underlying e = some .string) (hz : (zeroValue e).run P w = .ok (.string ⟨#[]⟩) w) (i : Nat) (hf : MO P k e n D mo ob) (h : Hp B w0 w L) (hi : L[i]? = some (.mp mo ob)) (hm : a.eval m = .map mo) (s : ByteArray) (hx : a.eval x = .string s) (hkey : keyOf P k (.string s) = some (sk s))
    (kk : wpList P ops Q rest (a.put o.dst (.tuple #[.string (bget D s), .bool (bhas D s)])) w) : wpList P ops Q (o :: rest) a w := by
  refine wpList_plain hgd fun K hK => ?_
  have hrun : (Instr.lookup t (.map mo) (.string s) true).run P w = .ok (.tuple #[.string (bget D s), .bool (bhas D s)]) w := by
    rcases hf with ⟨rfl, rfl⟩ | ⟨g, rfl, hf⟩
    · exact Maps.look_nil true Ky ht hz hkey
    · exact look_str (h.ownsMp hi hf) Ky ht he hz s hkey
  unfold Oper.wp
  simp [execOp, hop, hm, hx, hrun, Result.andThen]
  exact hK _ _ kk
/-- .. m that is not nil -/
theorem wpList_lookup_obs {t : TypeId} (hgd : o.guard = none) (m x : Operand) (hop : o.op = .lookup t m x true) (Ky : Keyed P k) (ht : P.underlying t = some (.map k e)) (he : P.underlying e = some .string) (hz : (zeroValue e).run P w = .ok (.string ⟨#[]⟩) w) (i : Nat) (hf : MFit P k e n D ob) (h : Hp B w0 w L) (hi : L[i]? = some (.ob g ob)) (hm : a.eval m = .map (some g)) (s : ByteArray) (hx : a.eval x = .string s) (hkey : keyOf P k (.string s) = some (sk s))
    (kk : wpList P ops Q rest (a.put o.dst (.tuple #[.string (bget D s), .bool (bhas D s)])) w) : wpList P ops Q (o :: rest) a w := by
  refine wpList_plain hgd fun K hK => ?_
  have hrun := look_str (h.ownsOb hi hf) Ky ht he hz s hkey
  unfold Oper.wp
  simp [execOp, hop, hm, hx, hrun, Result.andThen]
  exact hK _ _ kk
/-- an iterator over the map at g, at its own block r -/
def RFit (P : Program) (k e : TypeId) (g n : Nat) (D : DataW Unit) (left : Lit → Bool) (cnt : Nat) (ob it : Obj) : Prop :=
  ∃ es clock since seen c0, ob = .map es clock ∧ Go.WideElems.Fit P k (plainElem (H := Unit) P e) es clock ∧ es.size ≤ n ∧ D = .map ((es.toList.map (Go.WideElems.rg P k (plainElem (H := Unit) P e))).foldr DataW.insert []) ∧
    it = .mapIter (some g) since seen c0 ∧ (∀ x ∈ es.toList, x.born < since) ∧ (leftOf es seen).size = cnt ∧
    (∀ x ∈ es.toList, left (Go.WideElems.rg P k (plainElem (H := Unit) P e) x).1 = !seen.contains x.born) ∧ (∀ kl, left kl = true → ∃ x ∈ es.toList, (Go.WideElems.rg P k (plainElem (H := Unit) P e) x).1 = kl) ∧ since ≤ c0 ∧ since ≤ clock

variable {left : Lit → Bool} {cnt r i j : Nat} {it : Obj}
theorem Hp.obAt (h : Hp B w0 w L) (hi : L[i]? = some (.ob g ob)) : w.heap[g]? = some ob := (h.own _ (List.mem_of_getElem? hi)).2
theorem Hp.ranges (h : Hp B w0 w L) (hi : L[i]? = some (.ob g ob)) (hj : L[j]? = some (.ob r it)) (hr : RFit P k e g n D left cnt ob it) : w.ranges P k (plainElem (H := Unit) P e) g r n D left cnt := by
  obtain ⟨es, clock, since, seen, c0, rfl, h1, h2, h3, rfl, h4⟩ := hr
  exact ⟨es, clock, since, seen, c0, h.obAt hi, h1, h2, h3, h.obAt hj, h4⟩
theorem key_str_inv (hk : P.underlying k = some .string) {key : Value} {kl : Lit} (h : keyOf P k key = some kl) : ∃ s : ByteArray, key = .string s ∧ kl = sk s ∧ s.size ≤ maxLen := by
  unfold keyOf mapKey at h
  rw [hk] at h
  cases key <;> simp at h
  rename_i s
  refine ⟨s, rfl, ?_, ?_⟩
  · exact h.2.symm
  · exact h.1
end
end Go.Proofs.YtlgidjanmaijaaaGreatDoor

/- a map from strings to whatever values, as they are; made, written, looked into, ranged over. For any program. -/
namespace Go.Proofs.YtlgidjanmaijaaaGreatDoor
set_option linter.all false
open Go.RowKit
open Go.Maps (Keyed)
/-- an element as it is -/
def heldV (v : Value) : Option (DataW Value × List MemPlace) := some (.held v, [])
/-- what is there -/
def vget (D : DataW Value) (s : ByteArray) (z : Value) : Value := match D.atKey (sk s) (.held z) with
  | .held v => v
  | _ => z
def vhas (D : DataW Value) (s : ByteArray) : Bool := Maps.has D (sk s)
def VFit (P : Program) (k : TypeId) (n : Nat) (D : DataW Value) (o : Obj) : Prop := ∃ es clock, o = .map es clock ∧ Go.WideElems.Fit P k heldV es clock ∧ es.size ≤ n ∧ D = .map ((es.toList.map (Go.WideElems.rg P k heldV)).foldr DataW.insert [])
theorem VFit.mono {P : Program} {k : TypeId} {n n' : Nat} {D : DataW Value} {o : Obj} (h : VFit P k n D o) (hn : n ≤ n') : VFit P k n' D o := by
  obtain ⟨es, clock, h0, h1, h2, h3⟩ := h
  exact ⟨es, clock, h0, h1, Nat.le_trans h2 hn, h3⟩
theorem VFit.isMap {P : Program} {k : TypeId} {n : Nat} {D : DataW Value} {o : Obj} (h : VFit P k n D o) : Maps.IsMap D := by
  obtain ⟨es, clock, h0, h1, h2, h3⟩ := h
  exact ⟨_, h3⟩
theorem vhas_put_same {D : DataW Value} (hD : Maps.IsMap D) (k : ByteArray) (v : Value) : vhas (D.put (sk k) (.held v)) k = true := Maps.has_put_same (k := sk k) hD trivial _
theorem vhas_put_other {D : DataW Value} {k k' : ByteArray} (h : k' ≠ k) (v : Value) : vhas (D.put (sk k) (.held v)) k' = vhas D k' := Maps.has_put_other (fun e => h (sk_inj e)) _
theorem vget_put_same {D : DataW Value} (hD : Maps.IsMap D) (k : ByteArray) (v z : Value) : vget (D.put (sk k) (.held v)) k z = v := by
  unfold vget
  rw [Maps.atKey_put_same (k := sk k) hD trivial]
theorem vget_put_other {D : DataW Value} {k k' : ByteArray} (h : k' ≠ k) (v z : Value) : vget (D.put (sk k) (.held v)) k' z = vget D k' z := by
  unfold vget
  rw [Maps.atKey_put_other (fun e => h (sk_inj e))]
theorem vhas_none (k : ByteArray) : vhas (.map []) k = false := rfl
section
variable {P : Program} {ops : Array Oper} {Q : Exit → Act → World → Prop} {B : Nat} {w0 w w' : World} {L : List Item} {g n : Nat} {ob : Obj} {k e : TypeId} {D : DataW Value} {o : Oper} {rest : List Oper} {a : Act}
theorem VFit.owns (hm : VFit P k n D ob) (hat : w.heap[g]? = some ob) : w.ownsMap P k heldV g n D := by
  obtain ⟨es, clock, rfl, h1, h2, h3⟩ := hm
  exact ⟨es, clock, hat, h1, h2, h3⟩
theorem Hp.vTurn {w' : World} {n' : Nat} {D' : DataW Value} (h : Hp B w0 w (.ob g ob :: L)) (hg : w.grownBy w' (some g)) (hm : w'.ownsMap P k heldV g n' D') : ∃ o', VFit P k n' D' o' ∧ Hp B w0 w' (.ob g o' :: L) := by
  obtain ⟨es, clock, h0, h1, h2, h3⟩ := hm
  exact ⟨.map es clock, ⟨es, clock, rfl, h1, h2, h3⟩, h.turn hg (.inr rfl) ⟨h.head.1, h0⟩ (.inl rfl)⟩
/-- 'make(map..)' -/
theorem wpList_makeMap_v {t : TypeId} (hgd : o.guard = none) (ho : o.op = .makeMap t none) (h : Hp B w0 w L)
    (kk : ∀ g w' ob, VFit P k 0 (.map []) ob → Hp B w0 w' (.ob g ob :: L) → wpList P ops Q rest (a.put o.dst (.map (some g))) w') : wpList P ops Q (o :: rest) a w := by
  refine wpList_plain hgd fun K hK => ?_
  obtain ⟨es, clock, h0, h1, h2, h3⟩ := World.ownsMap_made w P k heldV
  have hr : (Instr.makeMap t none).run P w = .ok (.map (some w.heap.size)) (w.alloc (.map #[] 0)) := rfl
  unfold Oper.wp execOp
  simp only [ho, Option.map_none, Sem.run_bind, Sem.run_pure, Result.andThen_ok, hr]
  exact hK _ _ (kk _ _ _ ⟨es, clock, rfl, h1, h2, h3⟩ ((h.old _).cons (x := .ob w.heap.size (.map es clock)) ⟨h.base, h0⟩ (h.fresh rfl (Nat.le_refl _))))
/-- 'm[x] = v', the map at place i -/
theorem wpList_mapPut_v {t : TypeId} (hgd : o.guard = none) (m x v : Operand) (hop : o.op = .mapUpdate t m x v ∨ o.op = .insert t m x v) (Ky : Keyed P k) (ht : P.underlying t = some (.map k e)) (i : Nat) (hf : VFit P k n D ob) (h : Hp B w0 w L) (hi : L[i]? = some (.ob g ob)) (hm : a.eval m = .map (some g)) (val : Value) (s : ByteArray) (hx : a.eval x = .string s) (hv : a.eval v = val) (hkey : keyOf P k (.string s) = some (sk s)) (hn : n < maxLen)
    (kk : ∀ ob' w', VFit P k (n + 1) (D.put (sk s) (.held val)) ob' → Hp B w0 w' (.ob g ob' :: L.eraseIdx i) → wpList P ops Q rest (a.put o.dst undef) w') : wpList P ops Q (o :: rest) a w := by
  refine wpList_plain hgd fun K hK => ?_
  have h' := h.front i hi
  obtain ⟨w', hrun, r1, r2⟩ := (hf.owns h'.head.2).update Ky ht hn hkey (show heldV val = some (.held val, []) from rfl)
  obtain ⟨ob', h1, h2⟩ := h'.vTurn r2 r1
  unfold Oper.wp
  rcases hop with hop | hop
  · simp [execOp, hop, hm, hx, hv, hrun, Result.andThen]
    exact hK _ _ (kk _ _ h1 h2)
  · simp [execOp, hop, hm, hx, hv, hrun, Result.andThen]
    exact hK _ _ (kk _ _ h1 h2)
theorem look_v {t : TypeId} (h : w.ownsMap P k heldV g n D) (Ky : Keyed P k) (ht : P.underlying t = some (.map k e)) {z : Value} (hz : (zeroValue e).run P w = .ok z w) (s : ByteArray) (hkey : keyOf P k (.string s) = some (sk s)) :
    (Instr.lookup t (.map (some g)) (.string s) true).run P w = .ok (.tuple #[vget D s z, .bool (vhas D s)]) w := by
  obtain ⟨v, ps, hrun, hv⟩ := h.look_ok Ky ht hz (show heldV z = some (.held z, []) from rfl) hkey
  rw [hrun]
  have hb : vget D s z = v := by
    have := congrArg Prod.fst (Option.some.inj hv)
    simp only at this
    unfold vget
    rw [← this]
  rw [hb]
  rfl
/-- 'v, ok := m[s]' -/
theorem wpList_lookup_v {t : TypeId} (hgd : o.guard = none) (m x : Operand) (hop : o.op = .lookup t m x true) (Ky : Keyed P k) (ht : P.underlying t = some (.map k e)) {z : Value} (hz : ∀ w, (zeroValue e).run P w = .ok z w) (hf : VFit P k n D ob) (hat : w.heap[g]? = some ob) (hm : a.eval m = .map (some g)) (s : ByteArray) (hx : a.eval x = .string s) (hkey : keyOf P k (.string s) = some (sk s))
    (kk : wpList P ops Q rest (a.put o.dst (.tuple #[vget D s z, .bool (vhas D s)])) w) : wpList P ops Q (o :: rest) a w := by
  refine wpList_plain hgd fun K hK => ?_
  have hrun := look_v (hf.owns hat) Ky ht (hz w) s hkey
  unfold Oper.wp
  simp [execOp, hop, hm, hx, hrun, Result.andThen]
  exact hK _ _ kk
theorem run_len_v {t : TypeId} (ht : P.underlying t = some (.map k e)) (hf : VFit P k n D ob) (hat : w.heap[g]? = some ob) (ty : TypeId) : (Builtin.len_ #[t] ty #[.map (some g)]).run P w = .ok (.int .i64 (Maps.size D)) w := (hf.owns hat).len ht ty
/-- an iterator over the map at g, at its own block -/
def WFit (P : Program) (k : TypeId) (g n : Nat) (D : DataW Value) (left : Lit → Bool) (cnt : Nat) (ob it : Obj) : Prop :=
  ∃ es clock since seen c0, ob = .map es clock ∧ Go.WideElems.Fit P k heldV es clock ∧ es.size ≤ n ∧ D = .map ((es.toList.map (Go.WideElems.rg P k heldV)).foldr DataW.insert []) ∧
    it = .mapIter (some g) since seen c0 ∧ (∀ x ∈ es.toList, x.born < since) ∧ (leftOf es seen).size = cnt ∧
    (∀ x ∈ es.toList, left (Go.WideElems.rg P k heldV x).1 = !seen.contains x.born) ∧ (∀ kl, left kl = true → ∃ x ∈ es.toList, (Go.WideElems.rg P k heldV x).1 = kl) ∧ since ≤ c0 ∧ since ≤ clock
variable {left : Lit → Bool} {cnt r j : Nat} {it : Obj}
theorem WFit.ranges (hr : WFit P k g n D left cnt ob it) (hat : w.heap[g]? = some ob) (hit : w.heap[r]? = some it) : w.ranges P k heldV g r n D left cnt := by
  obtain ⟨es, clock, since, seen, c0, rfl, h1, h2, h3, rfl, h4⟩ := hr
  exact ⟨es, clock, since, seen, c0, hat, h1, h2, h3, hit, h4⟩
theorem wfit_of {w' : World} (h : w'.ranges P k heldV g r n D left cnt) (hg : w'.heap[g]? = some ob) (hr : w'.heap[r]? = some it) : WFit P k g n D left cnt ob it := by
  obtain ⟨es, clock, since, seen, c0, h0, h1, h2, h3, h4, h5⟩ := h
  rw [hg] at h0
  rw [hr] at h4
  exact ⟨es, clock, since, seen, c0, Option.some.inj h0, h1, h2, h3, Option.some.inj h4, h5⟩
theorem wranges_it {w' : World} (h : w'.ranges P k heldV g r n D left cnt) : ∃ it, w'.heap[r]? = some it := by
  obtain ⟨es, clock, since, seen, c0, h0, h1, h2, h3, h4, h5⟩ := h
  exact ⟨_, h4⟩
/-- 'range m' -/
theorem wpList_range_v {t : TypeId} (hgd : o.guard = none) (m : Operand) (hop : o.op = Op.range t m) (Ky : Keyed P k) (ht : P.underlying t = some (.map k e)) (hf : VFit P k n D ob) (h : Hp B w0 w L) (hat : w.heap[g]? = some ob) (hm : a.eval m = .map (some g))
    (kk : ∀ r it w', WFit P k g n D (Maps.has D) (Maps.size D) ob it → Hp B w0 w' (.ob r it :: L) → wpList P ops Q rest (a.put o.dst (.pointer (some ⟨r, 0, none⟩))) w') : wpList P ops Q (o :: rest) a w := by
  refine wpList_range_own w hgd m t hop k e Ky ht _ g n D hm (hf.owns hat) fun w' hrg hgr hsz => ?_
  obtain ⟨it, hit⟩ := wranges_it hrg
  have h' := h.grown hgr
  exact kk _ it w' (wfit_of hrg (by rw [hgr.block g (Array.getElem?_eq_some_iff.1 hat).1 (by simp)]; exact hat) hit) (h'.cons (x := .ob w.heap.size it) ⟨h.base, hit⟩ (h.fresh rfl (Nat.le_refl _)))
/-- the range's step -/
theorem wpList_next_v (hgd : o.guard = none) (itr : Operand) (hop : o.op = Op.next itr false) (Ky : Keyed P k) (hk : P.underlying k = some .string) (j : Nat) (hr : WFit P k g n D left cnt ob it) (h : Hp B w0 w L) (hat : w.heap[g]? = some ob) (hj : L[j]? = some (.ob r it)) (hit : a.eval itr = .pointer (some ⟨r, 0, none⟩))
    (hDone : cnt = 0 → (∀ kl, left kl = false) → wpList P ops Q rest (a.put o.dst (.tuple #[.bool false])) w)
    (hMore : ∀ (x : ByteArray) (c : Value) (it' : Obj) (w' : World) (cnt' : Nat), x.size ≤ maxLen → left (sk x) = true → vhas D x = true → (∀ z, vget D x z = c) → WFit P k g n D (fun z => left z && !z.sameKey (sk x)) cnt' ob it' → cnt' < cnt → Hp B w0 w' (L.set j (.ob r it')) → (Instr.entry (.pointer (some ⟨r, 0, none⟩))).run P w' = .ok (.tuple #[.string x, c]) w' → wpList P ops Q rest (a.put o.dst (.tuple #[.bool true, .string x, c])) w') :
    wpList P ops Q (o :: rest) a w := by
  have hrg := hr.ranges hat (h.obAt hj)
  have hne : r ≠ g := hrg.ne
  refine wpList_next_ranges w hgd itr hop k Ky heldV Value.string id (fun key kl hkey => by obtain ⟨x, rfl, _⟩ := key_str_inv hk hkey; exact ⟨x, rfl⟩) (fun v y hv => ⟨v, rfl⟩)
    g r n D left cnt hit hrg hDone fun x c kl y w' cnt' hkey hlk hv hat' hrg1 hlt hgr hsz hen => ?_
  obtain ⟨x', ex, rfl, hxs⟩ := key_str_inv hk hkey
  cases ex
  obtain rfl := (Option.some.inj hv)
  obtain ⟨it', hit'⟩ := wranges_it hrg1
  have h1 := h.front j hj
  have h2 : Hp B w0 w' (.ob r it' :: L.eraseIdx j) := h1.turn hgr (.inr rfl) ⟨h1.head.1, hit'⟩ (.inl rfl)
  have h3 : Hp B w0 w' (L.set j (.ob r it')) := h2.perm (set_perm L j _ _ hj)
  have hg' : w'.heap[g]? = some ob := by
    rw [hgr.block g (Array.getElem?_eq_some_iff.1 hat).1 (by simpa using fun e => hne e.symm)]
    exact hat
  refine hMore x c it' w' cnt' hxs hlk ?_ ?_ (wfit_of hrg1 hg' hit') hlt h3 hen
  · exact Maps.has_true_of_atKey (y := .held c) hat'
  · intro z
    unfold vget
    rw [hat']
    rfl
end
end Go.Proofs.YtlgidjanmaijaaaGreatDoor

/- A region of quiet operations, of new blocks, and of a tail, under Hp. For any program. -/
namespace Go.Proofs.YtlgidjanmaijaaaGreatDoor
set_option linter.all false
open Go.RowKit
section
variable {P : Program} {a : Act}
def itemsOf (bs : Nat → Nat) (ms : List Mark) (n : Nat) : List Item := (blksOf bs ms n).map fun b => .blk b.1 b.2.1 b.2.2
/-- **A region of quiet operations, of new blocks, and of a tail**, whatever order is drawn. -/
theorem wp_region_tail_hp {B : Nat} {w0 w : World} {L : List Item} {Q : Exit → Act → World → Prop} {id : Nat} {l : List Oper} (ms : List Mark) (hm : P.follows .mixedOrders = true) (hlen : l.length = ms.length) (hok : tailOk l.toArray (mkOf ms) = true)
    (hS : Hp B w0 w L) (h : Walk P l.toArray (fun W => Hp B w0 W L) (fun a' => ∀ (bs : Nat → Nat) (w' : World), Hp B w0 w' (itemsOf bs ms 0 ++ L) → ∀ QN : Exit → Act → World → Prop, (∀ a w, Q .normal a w → QN .normal a w) →
      wpList P l.toArray QN (tailsOf l ms) (putB bs l ms 0 a') w') ms l a) : (Code.region id l.toArray true).wp P Q a w := by
  obtain ⟨hd, hl⟩ := tailOk_fixed hok
  have hcl : ∀ W W', Hp B w0 W L → Ext W W' → Hp B w0 W' L := fun _ _ h hx => Hp.step h hx
  have hmk : ∀ j m, ms[j]? = some m → m = mkOf ms j := fun j m hj => by simp [mkOf, hj]
  obtain ⟨vsQ, _, hK, hst⟩ := Walk.values (mk := mkOf ms) hd (a0 := a) l ms 0 (fun _ => undef) (by simp) (by simp) (fun j m hj => by rw [Nat.zero_add]; exact hmk j m hj) (by
    have : frameQ l.toArray (mkOf ms) (fun _ => undef) a 0 = a := by
      unfold frameQ
      generalize l.toArray.size = n
      induction n with
      | zero => rfl
      | succ n ih => unfold frameOf; simpa using ih
    rw [this]; exact h)
  refine wp_region_any hm ?_
  have hxd : Ext w w.drew := (Ext.refl w).drew
  have key := phase1 (Q := Q) (a0 := a) (vsQ := vsQ) (ws := w) hok hcl (fun i o ho => hst i o (Nat.zero_le _) ho) (fun vs w' hvs hF hx hM QN hQN => ?_) l.toArray.size (Array.replicate l.toArray.size false) vsQ w.drew (by simp) (by
      have := List.length_filter_le (fun j => !(Array.replicate l.toArray.size false).getD j true) (List.range l.toArray.size)
      simpa using this) (fun i j hi => by rw [repl_false] at hi; cases hi) (fun i _ => repl_false _ _) (fun _ _ => rfl) (hcl w w.drew hS hxd) hxd ⟨(fun i cs t _ hi => by have hi : (Array.replicate l.toArray.size false).getD i false = true := hi; rw [repl_false] at hi; cases hi), (fun i j _ _ hi _ _ => by have hi : (Array.replicate l.toArray.size false).getD i false = true := hi; rw [repl_false] at hi; cases hi)⟩
  · rw [frame_congr (M := fun _ => false) l.toArray.size (fun j hj => repl_false _ _)] at key
    rw [show frameOf l.toArray vsQ (fun _ => false) a l.toArray.size = a from by
      generalize l.toArray.size = n
      induction n with
      | zero => rfl
      | succ n ih => unfold frameOf; simpa using ih] at key
    exact key
  · obtain ⟨bs, hbs⟩ : ∃ bs : Nat → Nat, ∀ i cs t, i < l.toArray.size → mkOf ms i = .a cs t → vs i = .pointer (some ⟨bs i, 0, none⟩) := ⟨fun i => match vs i with | .pointer (some p) => p.block | _ => 0, fun i cs t hi hmi => by
      obtain ⟨b, h1, _, _⟩ := hM.at_ i cs t hmi (by simpa using hi)
      simp only [h1]⟩
    have hin : ∀ j cs t, ms[j]? = some (.a cs t) → j < l.toArray.size ∧ mkOf ms j = .a cs t := fun j cs t hj => ⟨by
      have := (List.getElem?_eq_some_iff.1 hj).1
      simp; omega, by simp [mkOf, hj]⟩
    have hS' : Hp B w0 w' (itemsOf bs ms 0 ++ L) := by
      have hmem : ∀ x ∈ itemsOf bs ms 0, ∃ j cs ty, j < l.toArray.size ∧ mkOf ms j = .a cs ty ∧ x = .blk (bs j) cs ty ∧ w.heap.size ≤ bs j ∧ w'.heap[bs j]? = some (.cells cs.toArray ty (0, 0)) := fun x hx => by
        obtain ⟨y, hy, rfl⟩ := List.mem_map.1 hx
        obtain ⟨j, cs, ty, hj, rfl⟩ := mem_blks ms 0 hy
        obtain ⟨lj, mj⟩ := hin j cs ty hj
        obtain ⟨b, h1, h2, h3⟩ := hM.at_ j cs ty mj (by simpa using lj)
        rw [hbs j cs ty lj mj] at h1
        simp only [Value.pointer.injEq, Option.some.injEq, Addr.mk.injEq, and_true] at h1
        simp only [Nat.zero_add]
        exact ⟨j, cs, ty, lj, mj, rfl, by rw [h1]; exact h2, by rw [h1]; exact h3⟩
      refine ⟨hF.below, hF.base, List.pairwise_append.2 ⟨?_, hF.apart, fun x hx y hy => ?_⟩, fun x hx => ?_⟩
      · unfold itemsOf
        refine List.pairwise_map.2 ((blks_apart ms 0 fun i j hij ⟨c1, t1, hi⟩ ⟨c2, t2, hj⟩ => ?_).imp fun h => .inr (by simpa [Item.block] using h))
        rw [Nat.zero_add, Nat.zero_add]
        obtain ⟨li, mi⟩ := hin i c1 t1 hi
        obtain ⟨lj, mj⟩ := hin j c2 t2 hj
        intro e
        refine hM.ne i j (by rw [mi]; rfl) (by rw [mj]; rfl) (by simpa using li) (by simpa using lj) hij ?_
        rw [hbs i c1 t1 li mi, hbs j c2 t2 lj mj, e]
      · obtain ⟨j, cs, ty, _, _, rfl, h2, _⟩ := hmem x hx
        cases hyb : y.block with
        | none => exact clash.symm (.inl hyb)
        | some g =>
          right
          have := ((hS.own y hy).lt g hyb).2
          rw [hyb]
          simp only [Item.block, ne_eq, Option.some.injEq]
          omega
      · rcases List.mem_append.1 hx with hx | hx
        · obtain ⟨j, cs, ty, _, _, rfl, h2, h3⟩ := hmem x hx
          exact ⟨Nat.le_trans hS.base h2, h3⟩
        · exact hF.own x hx
    have hw := hK bs w' hS' QN hQN
    have e1 : frameQ l.toArray (mkOf ms) vsQ a l.toArray.size = frameOf l.toArray vs (fun j => (mkOf ms j).isQ || (decide (j < 0) && (mkOf ms j).isA)) a l.toArray.size := by
      unfold frameQ
      rw [frame_congr (M := fun j => (mkOf ms j).isQ || (decide (j < 0) && (mkOf ms j).isA)) l.toArray.size (fun j hj => by rw [show decide (j < l.toArray.size) = true by simpa using hj]; simp)]
      exact frame_vsL (fun i hi => by
        have : (mkOf ms i).isQ = true := by simpa using hi
        exact (hvs i this).symm) _
    rw [e1, putB_eq hd hbs l ms 0 hlen (by simp) (by simp) (fun j m hj => by rw [Nat.zero_add]; exact hmk j m hj)] at hw
    have e2 := tails_eq (ops := l.toArray) (mk := mkOf ms) l ms 0 hlen (by simp) (fun j m hj => by rw [Nat.zero_add]; exact hmk j m hj)
    rw [← List.range_eq_range'] at e2
    rw [show l.toArray.size = l.length by simp]
    rw [e2]
    exact hw
end
end Go.Proofs.YtlgidjanmaijaaaGreatDoor

/- slices of numbers: what they hold; slices.Clone. -/
namespace Go.Proofs.YtlgidjanmaijaaaGreatDoor
set_option linter.all false
set_option linter.unusedSimpArgs false
set_option linter.unusedVariables false
open Go.RowKit
abbrev intsV (F : List Int) : List Value := F.map (Value.int .i64)
theorem Tryz.elem_ints : Elem Tryz.prog 23 3 1 8 := by
  obtain ⟨i0, hi0, hz0, hz1, hz2⟩ := info_parts (show (Tryz.prog.info? 3).map (fun i => (i.zero, i.size, i.bytes)) = some (some (.int .i64 0), 1, 8) by kernel_rfl)
  exact ⟨Tryz.underlying23, ⟨i0, _, hi0, hz0, hz1, hz2, rfl⟩, by omega⟩
/-- the slice at A reads as F -/
def RI (w : World) (A : Option Addr) (F : List Int) : Prop := ∀ (k : Nat) (x : Int), F[k]? = some x → ∃ b o : Nat, A = some ⟨b, o, none⟩ ∧ w.cell? ⟨b, o + k, none⟩ = some (.int .i64 x)
theorem RI.ext {w w' : World} {A : Option Addr} {l : List Int} (h : RI w A l) (hx : Ext w w') : RI w' A l := fun k s hk => by
  obtain ⟨b, o, e, c⟩ := h k s hk
  exact ⟨b, o, e, hx.keeps c⟩
theorem intsV_get (l : List Int) (k : Nat) : (intsV l)[k]? = l[k]?.map (Value.int .i64) := by simp [intsV]
theorem addr_plus (b o j : Nat) : (⟨b, o, none⟩ : Addr).add j = ⟨b, o + j, none⟩ := by unfold Addr.add; split <;> simp_all
set_option maxRecDepth 100000 in
set_option maxHeartbeats 8000000 in
theorem iclone_any (F : List Int) (A : Option Addr) (n cap : Nat) (hn : F.length = n) (h0 : A = none → cap = 0) (w : World) (hr : RI w A F) (hl : n ≤ 1000000) :
    Calls Tryz.prog 16 #[.slice A n cap] w fun e w' => ∃ A' cap', e = .returned (.slice A' n cap') ∧ Hp w.heap.size w w' [.row 3 1 A' n cap' (intsV F)] := by
  cases A with
  | none =>
    obtain rfl : cap = 0 := h0 rfl
    have hF : F = [] := by
      cases F with
      | nil => rfl
      | cons x l =>
        obtain ⟨b, o, e, _⟩ := hr 0 x rfl
        cases e
    subst hF
    obtain rfl : n = 0 := by simpa using hn.symm
    have hS := Hp.init w
    have he : ∀ w : World, (binOp .eql 23 (.slice none 0 0) (.slice none 0 0)).run Tryz.prog w = .ok (.bool true) w := fun _ => rfl
    go_enter Tryz.func16, Tryz.ntmps16
    go_wp2_with (first | (refine hab ?_; (try clear hF); clear hS; intro wk hS; (try simp only [List.set_cons_zero, List.set_cons_succ, heap_size, heap_set_size] at hS); ((try clear hF); refine hfI ?_; intro hF)) | fail)
    go_ret
    exact ⟨none, 0, rfl, hS.nilRow _ _⟩
  | some ad =>
    have HC := Lib.hid (fun (W : World) (hx : Ext w W) (j : Nat) (u : Value) (hu : (intsV F)[j]? = some u) => show W.cell? (ad.add j) = some u from by
      rw [intsV_get] at hu
      obtain ⟨x, hx', rfl⟩ := Option.map_eq_some_iff.1 hu
      obtain ⟨b, o, e, c⟩ := (hr.ext hx) j x hx'
      obtain rfl := Option.some.inj e
      rw [addr_plus]
      exact c)
    have HL := Lib.hid (show (intsV F).length = n * 1 by rw [List.length_map, hn, Nat.mul_one])
    have H1 := Lib.hid (show ∀ u ∈ intsV F, u.oneCell' = true from fun u hu => by
      obtain ⟨x, _, rfl⟩ := List.mem_map.1 hu
      rfl)
    clear hr hn h0
    have hS := Hp.init w
    have he : ∀ w : World, (binOp .eql 23 (.slice (some ad) n cap) (.slice none 0 0)).run Tryz.prog w = .ok (.bool false) w := fun _ => rfl
    go_enter Tryz.func16, Tryz.ntmps16
    go_wp2_with (first | (refine hab ?_; (try clear hF); clear hS; intro wk hS; (try simp only [List.set_cons_zero, List.set_cons_succ, heap_size, heap_set_size] at hS); ((try clear hF); refine hfI ?_; intro hF)) | (at_builtin; refine wpList_append_hp Tryz.elem_ints rfl (.tmp 5) (.tmp 6) rfl (hS.blkRow (size := 1) (n := 0) rfl (by omega)) rfl ad rfl (news := intsV F) HL.out (fun j u hu => HC.out _ hS.ext j u hu) H1.out (by omega) (by omega) ?_; clear hS; intro A' cap' wk hS; ((try clear hF); refine hfI ?_; intro hF)))
    go_ret
    exact ⟨A', cap', rfl, by simpa using hS⟩
end Go.Proofs.YtlgidjanmaijaaaGreatDoor

/- Strings are keys of maps. -/
namespace Go.Proofs.YtlgidjanmaijaaaGreatDoor
set_option linter.all false
set_option linter.unusedSimpArgs false
set_option linter.unusedVariables false
open Go.RowKit
open Go.Maps (Keyed)
theorem Tryz.keyedStr : Keyed Tryz.prog 9 := Go.Maps.string_keyed Tryz.underlying9
theorem key_str {s : ByteArray} (h : s.size ≤ maxLen) : keyOf Tryz.prog 9 (.string s) = some (sk s) := Go.WideMaps.keyOf_string_mk Tryz.underlying9 h
end Go.Proofs.YtlgidjanmaijaaaGreatDoor

/- slices of numbers: Contains, ContainsFunc, Sort; log.mask. -/
namespace Go.Proofs.YtlgidjanmaijaaaGreatDoor
set_option linter.unusedSimpArgs false
set_option linter.unusedVariables false
open Go.RowKit
set_option linter.all false
open Go.Sort
theorem RI.some {w : World} {A : Option Addr} {l : List Int} (h : RI w A l) (h1 : 0 < l.length) : ∃ b o, A = some ⟨b, o, none⟩ ∧ ∀ j, j < l.length → w.cell? ⟨b, o + j, none⟩ = some (.int .i64 (l.getD j 0)) := by
  obtain ⟨b, o, e, _⟩ := h 0 (l[0]'h1) (List.getElem?_eq_getElem _)
  refine ⟨b, o, e, fun j hj => ?_⟩
  obtain ⟨b2, o2, e2, c⟩ := h j (l[j]'hj) (List.getElem?_eq_getElem _)
  rw [e] at e2
  obtain ⟨rfl, rfl⟩ : b = b2 ∧ o = o2 := by simpa using e2
  rw [List.getD_eq_getElem?_getD, List.getElem?_eq_getElem hj]
  exact c
theorem icontains_any {l : List Int} {A : Option Addr} {n cap : Nat} {x : Int} {w : World} (hn : l.length = n) (hl : n ≤ 1000000) (hr : RI w A l) :
    Calls Tryz.prog 97 #[.slice A n cap, .int .i64 x] w fun e w' => e = .returned (.bool (l.contains x)) ∧ Ext w w' := by
  rcases Nat.eq_zero_or_pos n with h0 | h0
  · subst h0
    have : l = [] := List.eq_nil_of_length_eq_zero hn
    subst this
    exact (Tryz.slices_Contains_int_empty A cap x w).mono fun e w' ⟨h1, h2⟩ => ⟨h1, h2 ▸ Ext.refl w⟩
  · obtain ⟨b, o, rfl, hc⟩ := hr.some (by omega)
    have := Tryz.slices_Contains_int b o n cap l x w (by omega) (by omega) hc
    rw [List.take_of_length_le (by omega)] at this
    exact this.mono fun e w' ⟨h1, h2⟩ => ⟨h1, h2 ▸ Ext.refl w⟩
theorem iequal_any {l m : List Int} {A A2 : Option Addr} {n k cap cap2 : Nat} {w : World} (hn : l.length = n) (hk : m.length = k) (hl : n ≤ 1000000) (hl2 : k ≤ 1000000) (hr : RI w A l) (hr2 : RI w A2 m) :
    Calls Tryz.prog 30 #[.slice A n cap, .slice A2 k cap2] w fun e w' => e = .returned (.bool (l == m)) ∧ Ext w w' := by
  by_cases hnk : n = k
  · subst hnk
    rcases Nat.eq_zero_or_pos n with h0 | h0
    · subst h0
      have e1 : l = [] := List.eq_nil_of_length_eq_zero hn
      have e2 : m = [] := List.eq_nil_of_length_eq_zero hk
      subst e1 e2
      exact (Tryz.slices_Equal_int_empty A A2 cap 0 cap2 w (by omega)).mono fun e w' ⟨h1, h2⟩ => ⟨h1, h2 ▸ Ext.refl w⟩
    · obtain ⟨b, o, rfl, hc⟩ := hr.some (by omega)
      obtain ⟨b2, o2, rfl, hc2⟩ := hr2.some (by omega)
      have := Tryz.slices_Equal_int b o n cap b2 o2 n cap2 l m w (by omega) (by omega) (by omega) (by omega) hc hc2
      rw [List.take_of_length_le (by omega), List.take_of_length_le (by omega)] at this
      exact this.mono fun e w' ⟨h1, q, h2⟩ => ⟨h1, h2 ▸ (Ext.refl w).drewN q⟩
  · refine (Tryz.slices_Equal_int_lens A A2 n cap k cap2 w hnk).mono fun e w' ⟨h1, h2⟩ => ⟨?_, h2 ▸ Ext.refl w⟩
    rw [h1, show (l == m) = false by
      rw [beq_eq_false_iff_ne]
      intro e
      rw [e] at hn
      omega]
/-- places that may be masked -/
def maskFrom (rows : Int) : Int → List Int → Bool
  | _, [] => true
  | p, x :: l => decide (0 ≤ x) && decide (x < rows) && decide (p < x) && maskFrom rows x l
def maskB (l : List Int) (rows : Int) : Bool := maskFrom rows (-1) l
def idxI (p : Int → Bool) : Nat → List Int → Int
  | _, [] => -1
  | k, x :: l => if p x then k else idxI p (k + 1) l
theorem idxI_any (p : Int → Bool) : ∀ (l : List Int) (k : Nat), decide (0 ≤ idxI p k l) = l.any p
  | [], k => rfl
  | x :: l, k => by
    unfold idxI
    rw [List.any_cons]
    cases hp : p x with
    | true => simp
    | false => simpa [hp] using idxI_any p l (k + 1)
theorem dropI_cons {l : List Int} {k : Nat} {x : Int} (h : l[k]? = some x) : l.drop k = x :: l.drop (k + 1) := by
  obtain ⟨h1, h2⟩ := List.getElem?_eq_some_iff.1 h
  rw [List.drop_eq_getElem_cons h1, h2]
set_option maxRecDepth 100000 in
set_option maxHeartbeats 8000000 in
theorem mask_any (l : List Int) (A : Option Addr) (n cap : Nat) (rows : Int) (w : World) (hn : l.length = n) (hl : n ≤ 1000000) (hr : RI w A l) :
    Calls Tryz.prog 36 #[.slice A n cap, .int .i64 rows] w fun e w' => e = .returned (.bool (maskB l rows)) ∧ Ext w w' := by
  have Hn := Lib.hid hn
  obtain ⟨D, hD⟩ : ∃ D, D = maskB l rows := ⟨_, rfl⟩
  rw [← hD]
  have HD := Lib.hid hD
  clear hn hD
  have hS := Hp.init w
  have hR := Reads.nil w
  go_enter Tryz.func36, Tryz.ntmps36
  go_wp2_with (first | (refine hab ?_; (try clear hF); clear hS; intro wk hS; (try simp only [List.set_cons_zero, List.set_cons_succ, heap_size, heap_set_size] at hS); ((try clear hF); refine hfI ?_; intro hF)) | fail)
  go_loopw [9] (fun i wr => ∃ (k : Nat), i = .int .i64 k ∧ k ≤ n ∧ Hid (D = maskFrom rows (if k = 0 then -1 else l.getD (k - 1) 0) (l.drop k)) ∧ Hp w.heap.size w wr []) (fun i _ => n - (intOf i).toNat)
  case atStart => exact ⟨0, rfl, Nat.zero_le _, Lib.hid (by rw [HD.out, if_pos rfl, List.drop_zero]; rfl), hS⟩
  case round =>
    clear hS
    obtain ⟨k, rfl, hk, HDK, hS⟩ := hrel
    by_cases hlt : k < n
    · obtain ⟨x, hx⟩ : ∃ x, l[k]? = some x := ⟨l[k]'(by rw [Hn.out]; exact hlt), List.getElem?_eq_getElem _⟩
      obtain ⟨b, o, rfl, c0⟩ := hr k x hx
      have HDG := Lib.hid (show D = (decide (0 ≤ x) && decide (x < rows) && decide ((if k = 0 then -1 else l.getD (k - 1) 0) < x) && maskFrom rows x (l.drop (k + 1))) by rw [HDK.out, dropI_cons hx]; rfl)
      have hxg : l.getD k 0 = x := by rw [List.getD_eq_getElem?_getD, hx]; rfl
      clear hR
      by_cases x0 : x < 0
      · have hD2 : D = false := by rw [HDG.out, decide_eq_false (show ¬ 0 ≤ x by omega)]; simp
        subst hD2
        have hR := Reads.cell c0 (Reads.nil w)
        ((try clear hF); refine hfI ?_; intro hF)
        go_wp2_with (first | (refine hab ?_; (try clear hF); clear hS; intro wk hS; (try simp only [List.set_cons_zero, List.set_cons_succ, heap_size, heap_set_size] at hS); ((try clear hF); refine hfI ?_; intro hF)) | fail)
        go_ret
        exact ⟨rfl, hS.ext⟩
      by_cases x1 : rows ≤ x
      · have hD2 : D = false := by rw [HDG.out, decide_eq_false (show ¬ x < rows by omega)]; simp
        subst hD2
        have hR := Reads.cell c0 (Reads.nil w)
        ((try clear hF); refine hfI ?_; intro hF)
        go_wp2_with (first | (refine hab ?_; (try clear hF); clear hS; intro wk hS; (try simp only [List.set_cons_zero, List.set_cons_succ, heap_size, heap_set_size] at hS); ((try clear hF); refine hfI ?_; intro hF)) | fail)
        go_ret
        exact ⟨rfl, hS.ext⟩
      by_cases k0 : k = 0
      · subst k0
        simp only [Nat.add_zero] at c0
        have hR := Reads.cell c0 (Reads.nil w)
        ((try clear hF); refine hfI ?_; intro hF)
        go_wp2_with (first | (refine hab ?_; (try clear hF); clear hS; intro wk hS; (try simp only [List.set_cons_zero, List.set_cons_succ, heap_size, heap_set_size] at hS); ((try clear hF); refine hfI ?_; intro hF)) | fail)
        go_roundw
        case rel => exact ⟨1, by go_num, by omega, Lib.hid (by rw [HDG.out, if_pos rfl, decide_eq_true (show 0 ≤ x by omega), decide_eq_true (show x < rows by omega), decide_eq_true (show -1 < x by omega), if_neg (by omega), hxg]; simp), hS⟩
        case measure => simp [intOf]; omega
      · obtain ⟨y, hy⟩ : ∃ y, l[k - 1]? = some y := ⟨l[k - 1]'(by rw [Hn.out]; omega), List.getElem?_eq_getElem _⟩
        obtain ⟨b1, o1, hA, d0⟩ := hr (k - 1) y hy
        obtain ⟨rfl, rfl⟩ : b = b1 ∧ o = o1 := by simpa using hA
        have hyg : l.getD (k - 1) 0 = y := by rw [List.getD_eq_getElem?_getD, hy]; rfl
        rw [if_neg k0, hyg] at HDG
        have hR := Reads.cell c0 (Reads.cell d0 (Reads.nil w))
        have hk1 : 0 < (k : Int) := by omega
        have e1 : IntKind.i64.wrap ((k : Int) - 1) = ((k - 1 : Nat) : Int) := by rw [IntWalk.i64_in _ (by omega)]; omega
        by_cases hyx : x ≤ y
        · have hD2 : D = false := by rw [HDG.out, decide_eq_false (show ¬ y < x by omega)]; simp
          subst hD2
          ((try clear hF); refine hfI ?_; intro hF)
          go_wp2_with (first | (refine hab ?_; (try clear hF); clear hS; intro wk hS; (try simp only [List.set_cons_zero, List.set_cons_succ, heap_size, heap_set_size] at hS); ((try clear hF); refine hfI ?_; intro hF)) | fail)
          go_ret
          exact ⟨rfl, hS.ext⟩
        · skip
          ((try clear hF); refine hfI ?_; intro hF)
          go_wp2_with (first | (refine hab ?_; (try clear hF); clear hS; intro wk hS; (try simp only [List.set_cons_zero, List.set_cons_succ, heap_size, heap_set_size] at hS); ((try clear hF); refine hfI ?_; intro hF)) | fail)
          go_roundw
          case rel => exact ⟨k + 1, by go_num, by omega, Lib.hid (by rw [HDG.out, decide_eq_true (show 0 ≤ x by omega), decide_eq_true (show x < rows by omega), decide_eq_true (show y < x by omega), if_neg (by omega), Nat.add_sub_cancel, hxg]; simp), hS⟩
          case measure => simp [intOf]; omega
    · obtain rfl : n = k := by omega
      have hD2 : D = true := by rw [HDK.out, List.drop_eq_nil_of_le (by rw [Hn.out]; omega)]; rfl
      subst hD2
      ((try clear hF); refine hfI ?_; intro hF)
      go_wp2_with (first | (refine hab ?_; (try clear hF); clear hS; intro wk hS; (try simp only [List.set_cons_zero, List.set_cons_succ, heap_size, heap_set_size] at hS); ((try clear hF); refine hfI ?_; intro hF)) | fail)
      go_ret
      exact ⟨rfl, hS.ext⟩
/-- numbers, in order -/
def sortI (l : List Int) : List Int := l.mergeSort fun x y => decide (x ≤ y)
theorem sortI_len (l : List Int) : (sortI l).length = l.length := by simp [sortI]
set_option maxHeartbeats 8000000 in
/-- slices.Sort -/
theorem isort_any {B : Nat} {w0 w : World} {L : List Item} {A : Option Addr} {m cap : Nat} (l : List Int) (hm : l.length = m) (hl : m ≤ 1000000000) (hS : Hp B w0 w (.row 3 1 A m cap (intsV l) :: L)) :
    Calls Tryz.prog 99 #[.slice A m cap] w fun e w' => e = .returned (.tuple #[]) ∧ Hp B w0 w' (.row 3 1 A m cap (intsV (sortI l)) :: L) := by
  have hown : w.ownsRow B 3 1 (.slice A m cap) m (intsV l) := hS.head
  rcases hown.2 with ⟨hv, h0⟩ | ⟨g, cp, cur, hv, hbase, hgb, r1, r2, r3, r4⟩
  · obtain ⟨rfl, rfl, rfl⟩ : A = none ∧ m = 0 ∧ cap = 0 := by simpa using hv
    have hn : l = [] := List.eq_nil_of_length_eq_zero hm
    subst hn
    refine (Tryz.slices_Sort_int_none none 0 w).mono ?_
    rintro e w' ⟨rfl, rfl⟩
    refine ⟨rfl, ?_⟩
    rw [show sortI [] = [] from by simp [sortI]]
    exact hS
  · obtain ⟨rfl, _, rfl⟩ : A = some ⟨g, 0, none⟩ ∧ m = m ∧ cap = cp := by simpa using hv
    have hH : Holds (Value.int .i64) w g 0 l.toArray := holds_of_blockI hgb (by rw [hm]; simpa using r4)
    have hgl : g < w.heap.size := (Array.getElem?_eq_some_iff.1 hgb).1
    have cS := Tryz.slices_Sort_int g 0 cap l w hH hgl (by rw [hm]; omega)
    rw [hm] at cS
    refine cS.mono ?_
    rintro e w' ⟨rfl, nn, os, rfl⟩
    refine ⟨rfl, hS.turn (row := some g) (grownBy_sortedI _) (.inr rfl) ?_ (.inl rfl)⟩
    have := ownsRow_sortedI (n := nn) (os := os) (ss := l) (ts := l.mergeSort fun x y => decide (x ≤ y)) (by simp) hbase hgb (by rw [hm]; exact r1) r2 r3
    rw [hm] at this
    exact this
end Go.Proofs.YtlgidjanmaijaaaGreatDoor

/- pick: a number below another one. -/
namespace Go.Proofs.YtlgidjanmaijaaaGreatDoor
set_option linter.all false
set_option linter.unusedSimpArgs false
set_option linter.unusedVariables false
open Go.RowKit
theorem pick_any (a n : Int) (w : World) (h0 : 0 < n) (h1 : n ≤ 9223372036854775807) :
    Calls Tryz.prog 7 #[.int .i64 a, .int .i64 n] w fun e w' => (∃ m : Int, e = .returned (.int .i64 m) ∧ 0 ≤ m ∧ m < n) ∧ Ext w w' := by
  have hS := Hp.init w
  have hR := Reads.nil w
  go_enter Tryz.func7, Tryz.ntmps7
  go_wp2_with (first | (refine hab ?_; (try clear hF); clear hS; intro wk hS; (try simp only [List.set_cons_zero, List.set_cons_succ, heap_size, heap_set_size] at hS); ((try clear hF); refine hfI ?_; intro hF)) | fail)
  have u0 : 0 ≤ IntKind.u64.wrap a := by rw [IntKind.wrap_u64]; omega
  have t0 := Int.tmod_nonneg n u0
  have t1 := Int.tmod_lt_of_pos (IntKind.u64.wrap a) h0
  have e : wrap64 ((IntKind.u64.wrap a).tmod n) = (IntKind.u64.wrap a).tmod n := by unfold wrap64; omega
  go_ret
  exact ⟨⟨_, rfl, by rw [e]; exact t0, by rw [e]; exact t1⟩, hS.ext⟩
end Go.Proofs.YtlgidjanmaijaaaGreatDoor

/- Arguments that are slices of numbers: what their cells hold. -/
namespace Go.Proofs.YtlgidjanmaijaaaGreatDoor
set_option linter.unusedSimpArgs false
set_option linter.unusedVariables false
open Go.RowKit
set_option linter.all false
open Go.ChangeShapes Go.WideShapes Go.ChangeAt Go.Joins Go.Deep
set_option maxRecDepth 100000 in
/-- a slice of numbers that comes in -/
theorem open_ints {H : Type} {enc : TypeId × Value → H} {w : World} {base b0 : Nat} {r : Reach} {v : Value} {d : DataW H} {p : List MemPlace}
    (hv : Value.okWide Tryz.prog w r b0 23 v) (h : DataW.Trod enc Tryz.prog w base (fun _ => true) true 23 v d p) :
    ∃ (l : List Int) (A : Option Addr) (c : Nat), v = .slice A l.length c ∧ RI w A l ∧ (A = none → c = 0) := by
  obtain ⟨a0, len, cap, rfl⟩ := okWide_slice Tryz.underlying23 hv
  obtain ⟨fuel, hf⟩ := h
  rcases open_slice Tryz.underlying23 hf with ⟨hcs, hx⟩ | ⟨a, len', cap', m, n, D, Pl, hcs, hb, hl, hm, hmm, hx, hi⟩
  · simp [Value.cells] at hcs
    obtain ⟨rfl, rfl, rfl⟩ := hcs
    exact ⟨[], none, 0, rfl, (fun i x hi => by simp at hi), fun _ => rfl⟩
  · simp [Value.cells] at hcs
    obtain ⟨rfl, rfl, rfl⟩ := hcs
    rw [Tryz.cellsInt] at hi
    have hlm : len ≤ m := by rw [hmm]; split <;> omega
    obtain ⟨l, hll, hq⟩ := list_of (Q := fun i (x : Int) => w.cell? (a.add i) = some (.int .i64 x)) len (fun i hil => by
      obtain ⟨cs', hc, ht⟩ := hi i (by omega)
      obtain ⟨x, e0, _, _⟩ := DataW.trod_int Tryz.underlying3 ht
      subst e0
      obtain ⟨_, hcl, hat⟩ := World.cells?_some hc
      refine ⟨x, ?_⟩
      have := hat 0 (by omega)
      rw [Nat.mul_one, Go.Deep.add_add, Nat.add_zero] at this
      rw [this]
      rfl)
    refine ⟨l, some a, cap, by rw [hll], fun i x hx' => ?_, fun e => by cases e⟩
    have q := hq i x hx'
    have hil : i < l.length := (List.getElem?_eq_some_iff.1 hx').1
    have z0 : w.cell? a = some (.int .i64 (l[0]'(by omega))) := by
      have := hq 0 (l[0]'(by omega)) (List.getElem?_eq_getElem _)
      simpa [Addr.add] using this
    obtain ⟨b, o, spot⟩ := a
    have hspot : spot = none := by
      have := World.cell?_spot z0
      simpa using this
    subst hspot
    exact ⟨b, o, rfl, by rw [← addr_plus]; exact q⟩
end Go.Proofs.YtlgidjanmaijaaaGreatDoor

/- slices of strings: what their cells hold. -/
namespace Go.Proofs.YtlgidjanmaijaaaGreatDoor
set_option linter.all false
set_option linter.unusedSimpArgs false
set_option linter.unusedVariables false
open Go.RowKit
theorem zeroS (w : World) : (zeroValue 9).run Tryz.prog w = .ok (.string ⟨#[]⟩) w := by kernel_rfl
abbrev strsV (l : List ByteArray) : List Value := l.map Value.string
/-- the slice at A reads as l -/
def RS (w : World) (A : Option Addr) (l : List ByteArray) : Prop := ∀ (k : Nat) (s : ByteArray), l[k]? = some s → ∃ b o : Nat, A = some ⟨b, o, none⟩ ∧ w.cell? ⟨b, o + k, none⟩ = some (.string s)
theorem RS.ext {w w' : World} {A : Option Addr} {l : List ByteArray} (h : RS w A l) (hx : Ext w w') : RS w' A l := fun k s hk => by
  obtain ⟨b, o, e, c⟩ := h k s hk
  exact ⟨b, o, e, hx.keeps c⟩
theorem Hp.rs {B : Nat} {w0 w : World} {L : List Item} {A : Option Addr} {n cap : Nat} {l : List ByteArray} (h : Hp B w0 w L) (i : Nat) (hi : L[i]? = some (.row 9 1 A n cap (strsV l))) : RS w A l := fun k s hk => by
  obtain ⟨g, rfl, c, _⟩ := h.rowCell i hi (j := k) (u := .string s) (by rw [List.getElem?_map, hk]; rfl)
  exact ⟨g, 0, rfl, by rw [Nat.zero_add]; exact c⟩
end Go.Proofs.YtlgidjanmaijaaaGreatDoor

/- api.Tell. -/
namespace Go.Proofs.YtlgidjanmaijaaaGreatDoor
set_option linter.all false
set_option linter.unusedSimpArgs false
set_option linter.unusedVariables false
open Go.RowKit
/-- the type of errors, in the library's variable -/
def ErrAt (w : World) : Prop := w.cell? ⟨0, 0, none⟩ = some (.iface 158 (.agg #[.pointer (some ⟨10, 44, none⟩)]))
theorem ErrAt.ext {w w' : World} (h : ErrAt w) (hx : Ext w w') : ErrAt w' := hx.keeps h
theorem as_hp {B : Nat} {w0 w : World} {L : List Item} (e : Int) (g : Nat) (he : ErrAt w) (hS : Hp B w0 w (.blk g [.int .i64 0] 64 :: L)) :
    Calls Tryz.prog 31 #[.iface 64 (.int .i64 e), .iface 89 (.pointer (some ⟨g, 0, none⟩))] w fun ev w' => ev = .returned (.bool true) ∧ Hp B w0 w' (.blk g [.int .i64 e] 64 :: L) := by
  have hF := hS.facts
  simp only [HFacts, cellFacts, RFacts, cellOnly, and_true, true_and, Nat.zero_add, Nat.reduceAdd] at hF
  refine (as_hit e ⟨g, 0, none⟩ _ w he hF.1.1 hF.1.2).mono fun ev w' ⟨h1, h2⟩ => ⟨h1, ?_⟩
  rw [h2]
  exact ((((hS.old _).old _).old _).old _).put0 0 (.int .i64 e)
set_option maxRecDepth 100000 in
set_option maxHeartbeats 8000000 in
theorem tell_any (e : Int) (w : World) (he : ErrAt w) :
    Calls Tryz.prog 15 #[.iface 64 (.int .i64 e)] w fun ev w' => ev = .returned (.int .i64 e) ∧ Ext w w' := by
  have hS := Hp.init w
  have hR := Reads.nil w
  have HA := Lib.hid (fun (W : World) hx (L : List Item) g hS => as_hp (w0 := w) (w := W) (B := w.heap.size) (L := L) e g (he.ext (w' := W) hx) hS)
  go_enter Tryz.func15, Tryz.ntmps15
  go_wp2_with (first | (refine hab ?_; (try clear hF); clear hS; intro wk hS; (try simp only [List.set_cons_zero, List.set_cons_succ, heap_size, heap_set_size] at hS); ((try clear hF); refine hfI ?_; intro hF)) | (go_at_call 31; (with_reducible refine Calls.mono (HA.out _ hS.ext _ _ hS) ?_); clear hS; rintro ev wk ⟨rfl, hS⟩; ((try clear hF); refine hfI ?_; intro hF)))
  go_ret
  exact ⟨rfl, hS.ext⟩
end Go.Proofs.YtlgidjanmaijaaaGreatDoor
