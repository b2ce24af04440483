/- A region of quiet operations and of a chain: the operations of the chain come one behind the other, whatever order is drawn, and may turn what the call owns; the quiet ones come when they like. For any program. -/
import Derived.Test.YtbfccjjnnkomcaaDoorTail3
namespace Go.Proofs.YtbfccjjnnkomcaaDoor
open Go.RowKit
section
variable {P : Program} {ops : Array Oper} {F : World → Prop} {QN : Act → World → Prop}

/-- who is not of the chain waits for quiet ones alone; the chain's are in a row -/
def chainOk (ops : Array Oper) (mk : Nat → Mark) : Bool :=
  fixedOk ops && (List.range ops.size).all fun i => ((mk i).isQ || (mk i).isT) && (List.range ops.size).all fun j =>
    if (mk i).isT then !((mk j).isT && decide (j < i)) || deps ops 5 i j else !(waits ops i j && (mk j).isT)

/-- the walk along the chain: what holds of the world ahead of each of its operations is kept by whatever leaves all as it was -/
def Chain (P : Program) (ops : Array Oper) (F : World → Prop) (QN : Act → World → Prop) : List Oper → Act → (World → Prop) → Prop
  | [], a, C => ∀ w, C w → QN a w
  | o :: rest, a, C =>
    (Region.wanted o (yielded ops a.tmps) = true ∧ ∀ w, C w → o.wp P a w (fun a' w' => ∃ C' : World → Prop, C' w' ∧ (∀ w w', C' w → Ext w w' → C' w') ∧ (∀ w, C' w → F w) ∧ Chain P ops F QN rest a' C') (fun _ _ _ => False)) ∨
    (Region.wanted o (yielded ops a.tmps) = false ∧ Chain P ops F QN rest (a.put o.dst undef) C)

theorem Chain.eq_cons {o : Oper} {rest : List Oper} {a : Act} {C : World → Prop} : Chain P ops F QN (o :: rest) a C = ((Region.wanted o (yielded ops a.tmps) = true ∧ ∀ w, C w → o.wp P a w (fun a' w' => ∃ C' : World → Prop, C' w' ∧ (∀ w w', C' w → Ext w w' → C' w') ∧ (∀ w, C' w → F w) ∧ Chain P ops F QN rest a' C') (fun _ _ _ => False)) ∨
    (Region.wanted o (yielded ops a.tmps) = false ∧ Chain P ops F QN rest (a.put o.dst undef) C)) := rfl

theorem phaseC {mk : Nat → Mark} {Q : Exit → Act → World → Prop} {a00 : Act} {vsQ : Nat → Value} (hok : chainOk ops mk = true) (hQN : ∀ a w, QN a w → Q .normal a w)
    (hq : ∀ i o, ops[i]? = some o → (mk i).isT = false → (Region.wanted o (yielded ops (frameQ ops mk vsQ a00 i).tmps) = true ∧ StepOK P F o (frameQ ops mk vsQ a00 i) (vsQ i)) ∨ (Region.wanted o (yielded ops (frameQ ops mk vsQ a00 i).tmps) = false ∧ vsQ i = undef)) :
    ∀ (fuel : Nat) (listed : Array Bool) (vs : Nat → Value) (a0 : Act) (w : World) (rest : List Nat) (C : World → Prop), a0.tmps = a00.tmps → listed.size = ops.size → ((List.range ops.size).filter fun j => !listed.getD j true).length ≤ fuel →
      (∀ i j, listed.getD i false = true → waits ops i j = true → listed.getD j false = true) →
      (∀ i, (mk i).isT = false → vs i = vsQ i) →
      rest = (List.range ops.size).filter (fun i => (mk i).isT && !listed.getD i false) → C w → (∀ w w', C w → Ext w w' → C w') → (∀ w, C w → F w) →
      Chain P ops F QN (rest.filterMap (ops[·]?)) (frameOf ops vs (fun j => !(mk j).isT || listed.getD j false) a0 ops.size) C →
      wpAny P .any ops Q fuel listed (frameOf ops vs (fun j => listed.getD j false) a0 ops.size) w := by
  simp only [chainOk, Bool.and_eq_true] at hok
  obtain ⟨hfx, hch⟩ := hok
  have hd : dstApart ops = true := by simp only [fixedOk, Bool.and_eq_true] at hfx; exact hfx.1
  have hl : looksOk ops = true := by simp only [fixedOk, Bool.and_eq_true] at hfx; exact hfx.2
  rw [List.all_eq_true] at hch
  have hchain : ∀ i j, i < ops.size → (mk i).isT = true → (mk j).isT = true → j < i → deps ops 5 i j = true := fun i j hi hT hTj hji => by
    have h := hch i (by simpa using hi)
    rw [Bool.and_eq_true] at h
    have h2 := List.all_eq_true.1 h.2 j (by simpa using Nat.lt_trans hji hi)
    rw [hT, hTj] at h2
    simpa [hji] using h2
  have hquiet : ∀ i j, (mk i).isT = false → waits ops i j = true → (mk j).isT = false := fun i j hT hw => by
    have hi := waits_lt hw
    have h := hch i (by simpa using hi)
    rw [Bool.and_eq_true] at h
    have h2 := List.all_eq_true.1 h.2 j (by simpa using Nat.lt_trans (waits_on hl hw) hi)
    rw [hT, hw] at h2
    simpa using h2
  have hQT : ∀ i, i < ops.size → (mk i).isQ = !(mk i).isT := fun i hi => by
    have h := hch i (by simpa using hi)
    rw [Bool.and_eq_true] at h
    rcases (mk i).trio with ⟨a, b, c⟩ | ⟨a, b, c⟩ | ⟨a, b, c⟩ <;> simp [a, c] at h ⊢
  have fin : ∀ (listed : Array Bool) (vs : Nat → Value) (a0 : Act) (w : World) (rest : List Nat) (C : World → Prop), listed.size = ops.size → rest = (List.range ops.size).filter (fun i => (mk i).isT && !listed.getD i false) → C w →
      Chain P ops F QN (rest.filterMap (ops[·]?)) (frameOf ops vs (fun j => !(mk j).isT || listed.getD j false) a0 ops.size) C → Region.ready .any ops listed = [] → Q .normal (frameOf ops vs (fun j => listed.getD j false) a0 ops.size) w := by
    intro listed vs a0 w rest C hs hrest hC hw hr
    have hall := all_listed hl hs hr
    have : rest = [] := by
      rw [hrest, List.filter_eq_nil_iff]
      intro i hi
      simp [hall i (by simpa using hi)]
    subst this
    rw [frame_congr (M := fun j => !(mk j).isT || listed.getD j false) ops.size (fun j hj => by simp [hall j hj])]
    exact hQN _ _ (hw w hC)
  intro fuel
  induction fuel with
  | zero =>
    intro listed vs a0 w rest C _ hs hn _ _ hrest hC _ _ hw
    have hr : Region.ready .any ops listed = [] := by
      rw [List.eq_nil_iff_forall_not_mem]
      intro i hi
      obtain ⟨h0, o, ho, _⟩ := mem_ready.1 hi
      have : i ∈ (List.range ops.size).filter fun j => !listed.getD j true := List.mem_filter.2 ⟨by simpa using (Array.getElem?_eq_some_iff.1 ho).1, by simp [h0]⟩
      rw [List.eq_nil_of_length_eq_zero (Nat.le_zero.1 hn)] at this
      cases this
    exact ⟨hr, fin listed vs a0 w rest C hs hrest hC hw hr⟩
  | succ fuel ih =>
    intro listed vs a0 w rest C h00 hs hn hcld hvs hrest hC hCx hCF hw
    refine ⟨fin listed vs a0 w rest C hs hrest hC hw, fun i hi => ?_⟩
    obtain ⟨h0, o, ho, hall⟩ := mem_ready.1 hi
    have hi' : i < ops.size := (Array.getElem?_eq_some_iff.1 ho).1
    have hsi : i < listed.size := by omega
    have hLi : listed.getD i false = false := by simpa [Array.getD_eq_getD_getElem?, hsi] using h0
    have hwl : ∀ j, waits ops i j = true → listed.getD j false = true := fun j hj => by
      obtain ⟨e, he, hb, rfl⟩ := (waits_spec ho).1 hj
      exact hall e he hb
    have hlw : ∀ j, waits ops j i = true → listed.getD j false = false := fun j hj => by
      cases hb : listed.getD j false with
      | false => rfl
      | true => rw [hcld j i hb hj] at hLi; cases hLi
    have hset := set_getD hsi
    cases hT : (mk i).isT with
    | false =>
      have hput : (ops[i]?).bind (·.dst) = o.dst := by rw [ho]; rfl
      have hwQ : vs i = vsQ i := hvs i hT
      refine wpOp_fixed (b := frameQ ops mk vsQ a00 i) (v := vsQ i) ho (sel_of hl ho) ?_ (hCF w hC) (hq i o ho hT) ?_
      · intro t ht
        unfold frameQ
        refine frames_agree2 hd hl h00 ho (fun j hj hw => ⟨hwl j hw, ?_, ?_⟩) (fun j hj hw => ⟨hlw j hw, by simp; omega⟩) ht
        · simp [hj, hQT j (Nat.lt_trans hj hi'), hquiet i j hT hw]
        · exact hvs j (hquiet i j hT hw)
      · intro w' hx
        have hmore := frame_more hd (vs := vs) (L := fun j => listed.getD j false) (a0 := a0) hLi ops.size hi'
        rw [hput, hwQ] at hmore
        rw [← hmore, frame_congr (M := fun j => (listed.setIfInBounds i true).getD j false) ops.size (fun j _ => (hset j).symm)]
        refine ih _ vs a0 w' rest C h00 (by simpa using hs) (set_count hsi hi' h0 hn) (set_closed hsi ho hall hcld) hvs ?_ (hCx w w' hC hx) hCx hCF ?_
        · rw [hrest]
          refine List.filter_congr fun j _ => ?_
          rw [hset]
          by_cases e : j = i
          · subst e; simp [hT]
          · have : (j == i) = false := by simpa using e
            rw [this, Bool.false_or]
        · rw [frame_congr (M := fun j => !(mk j).isT || listed.getD j false) ops.size (fun j _ => by
            rw [hset]
            by_cases e : j = i
            · subst e; simp [hT]
            · have : (j == i) = false := by simpa using e
              rw [this, Bool.false_or])]
          exact hw
    | true =>
      have hput : (ops[i]?).bind (·.dst) = o.dst := by rw [ho]; rfl
      have hnQ : ∀ j, (mk j).isT = false → j ≠ i := fun j hj e => by subst e; rw [hT] at hj; cases hj
      have hhead : rest = i :: (List.range ops.size).filter (fun j => (mk j).isT && !(listed.setIfInBounds i true).getD j false) := by
        rw [hrest]
        refine filter_head hi' (fun j hj => ?_) (by simp [hT, hLi]) (fun j => ?_)
        · cases hTj : (mk j).isT with
          | false => simp
          | true => rw [deps_closed hcld 5 i j hwl (hchain i j hi' hT hTj hj)]; simp
        · rw [hset]
          by_cases e : j = i
          · subst e; simp
          · have : (j == i) = false := by simpa using e
            have h' : (j != i) = true := by simpa using e
            rw [this, h', Bool.false_or, Bool.and_true]
      rw [hhead, List.filterMap_cons, ho] at hw
      have hLf : ∀ j, (!(mk j).isT || (listed.setIfInBounds i true).getD j false) = (j == i || (!(mk j).isT || listed.getD j false)) := fun j => by
        rw [hset]
        by_cases e : j = i
        · subst e; simp
        · have : (j == i) = false := by simpa using e
          rw [this]; simp
      have hgo : ∀ (v : Value) (w' : World) (ds : List Deferred) (C' : World → Prop), C' w' → (∀ w w', C' w → Ext w w' → C' w') → (∀ w, C' w → F w) → Chain P ops F QN ((List.filter (fun j => (mk j).isT && !(listed.setIfInBounds i true).getD j false) (List.range ops.size)).filterMap (ops[·]?)) ((frameOf ops vs (fun j => !(mk j).isT || listed.getD j false) { a0 with defers := ds } ops.size).put o.dst v) C' →
          wpAny P .any ops Q fuel (listed.setIfInBounds i true) ((frameOf ops vs (fun j => listed.getD j false) { a0 with defers := ds } ops.size).put o.dst v) w' := by
        intro v w' ds C' hC' hCx' hCF' hw'
        obtain ⟨us, hus⟩ : ∃ us : Nat → Value, us = fun j => if j = i then v else vs j := ⟨_, rfl⟩
        have hui : us i = v := by rw [hus]; simp
        have huo : ∀ j, j ≠ i → us j = vs j := fun j hj => by rw [hus]; simp [hj]
        have m1 := frame_more hd (vs := us) (L := fun j => listed.getD j false) (a0 := { a0 with defers := ds }) hLi ops.size hi'
        have m2 := frame_more hd (vs := us) (L := fun j => !(mk j).isT || listed.getD j false) (a0 := { a0 with defers := ds }) (i := i) (by rw [hT, hLi]; rfl) ops.size hi'
        rw [hput, hui, frame_vsL (us := vs) (L := fun j => listed.getD j false) (fun j hj => huo j (fun e => by have hj : listed.getD j false = true := hj; rw [e, hLi] at hj; cases hj))] at m1
        rw [hput, hui, frame_vsL (us := vs) (L := fun j => !(mk j).isT || listed.getD j false) (fun j hj => huo j (fun e => by have hj : (!(mk j).isT || listed.getD j false) = true := hj; rw [e, hT, hLi] at hj; cases hj))] at m2
        rw [← m1, frame_congr (M := fun j => (listed.setIfInBounds i true).getD j false) ops.size (fun j _ => (hset j).symm)]
        rw [← m2, frame_congr (M := fun j => !(mk j).isT || (listed.setIfInBounds i true).getD j false) ops.size (fun j _ => (hLf j).symm)] at hw'
        exact ih _ us { a0 with defers := ds } w' _ C' h00 (by simpa using hs) (set_count hsi hi' h0 hn) (set_closed hsi ho hall hcld)
          (fun j hj => by rw [huo j (hnQ j hj)]; exact hvs j hj) rfl hC' hCx' hCF' hw'
      have hab : ∀ t ∈ o.looksAt ops, (frameOf ops vs (fun j => listed.getD j false) a0 ops.size).tmps[t]? = (frameOf ops vs (fun j => !(mk j).isT || listed.getD j false) a0 ops.size).tmps[t]? := fun t ht =>
        frames_agree2 hd hl rfl ho (fun j hj hw => ⟨hwl j hw, by simp [hwl j hw], rfl⟩) (fun j hj hw => ⟨hlw j hw, by
          cases hTj : (mk j).isT with
          | true => simp [hlw j hw]
          | false =>
            have := hquiet j i hTj hw
            rw [hT] at this; cases this⟩) ht
      have e0 : ∀ (L : Nat → Bool) (ds : List Deferred), ({ frameOf ops vs L a0 ops.size with defers := ds } : Act) = frameOf ops vs L { a0 with defers := ds } ops.size := fun L ds => (frame_defers ops.size).symm
      have e1 : ∀ (L : Nat → Bool), (frameOf ops vs L a0 ops.size).defers = a0.defers := fun L => (frame_size ops.size).2
      unfold wpOp
      simp only [ho]
      rw [wanted_agree hab]
      rw [Chain.eq_cons] at hw
      rcases hw with ⟨hwt, hw⟩ | ⟨hwt, hw⟩
      · rw [if_pos hwt]
        refine .inl (wp_transfer (exec_agree hl ho hab) (fun _ _ _ h => h.elim) (fun v w' h => ?_) (fun d w' h => ?_) (hw w hC))
        · obtain ⟨C', h1, h2, h3, h4⟩ := h
          exact hgo v w' a0.defers C' h1 h2 h3 h4
        · rw [e0, e1] at h ⊢
          obtain ⟨C', h1, h2, h3, h4⟩ := h
          exact hgo undef w' _ C' h1 h2 h3 h4
      · rw [if_neg (by rw [hwt]; simp)]
        exact hgo undef w a0.defers C hC hCx hCF hw

/-- what the chain walks: the marked operations -/
def chainOf : List Oper → List Mark → List Oper
  | o :: l, m :: ms => if m.isT then o :: chainOf l ms else chainOf l ms
  | _, _ => []
theorem chain_eq {mk : Nat → Mark} : ∀ (rest : List Oper) (ms : List Mark) (n : Nat), rest.length = ms.length → (∀ j, rest[j]? = ops[n + j]?) → (∀ j m, ms[j]? = some m → m = mk (n + j)) →
    ((List.range' n rest.length).filter (fun i => (mk i).isT)).filterMap (ops[·]?) = chainOf rest ms
  | [], ms, n, hl, _, _ => by cases ms <;> simp_all [chainOf]
  | o :: rest, [], n, hl, _, _ => by simp at hl
  | o :: rest, m :: ms, n, hl, hr, hms => by
    have ho : ops[n]? = some o := by simpa using (hr 0).symm
    have hm : m = mk n := hms 0 m (by simp)
    have ih := chain_eq rest ms (n + 1) (by simpa using hl) (fun j => by have := hr (j + 1); simpa [Nat.add_assoc, Nat.add_comm 1 j] using this) (fun j m' hj => by have := hms (j + 1) m' (by simpa using hj); rw [this]; congr 1; omega)
    rw [List.length_cons, List.range'_succ, List.filter_cons]
    unfold chainOf
    rw [← hm]
    cases hT : m.isT with
    | true => rw [if_pos rfl, if_pos rfl, List.filterMap_cons, ho, ih]
    | false => rw [if_neg (by simp), if_neg (by simp), ih]

/-- **A region of quiet operations and of a chain**, whatever order is drawn. -/
theorem wp_region_chain {a : Act} {w : World} {C : World → Prop} {Q : Exit → Act → World → Prop} {id : Nat} {l : List Oper} (ms : List Mark) (F : World → Prop) (hm : P.follows .mixedOrders = true) (hlen : l.length = ms.length) (hok : chainOk l.toArray (mkOf ms) = true)
    (hC : C w) (hCx : ∀ w w', C w → Ext w w' → C w') (hCF : ∀ w, C w → F w)
    (h : Walk P l.toArray F (fun a' => Chain P l.toArray F (fun a w => Q .normal a w) (chainOf l ms) a' C) ms l a) : (Code.region id l.toArray true).wp P Q a w := by
  have hok' := hok
  simp only [chainOk, Bool.and_eq_true] at hok'
  have hd : dstApart l.toArray = true := by have := hok'.1; simp only [fixedOk, Bool.and_eq_true] at this; exact this.1
  have hmk : ∀ j m, ms[j]? = some m → m = mkOf ms j := fun j m hj => by simp [mkOf, hj]
  have h0 : ∀ vs : Nat → Value, frameOf l.toArray vs (fun _ => false) a l.toArray.size = a := fun vs => by
    generalize l.toArray.size = n
    induction n with
    | zero => rfl
    | succ n ih => unfold frameOf; simpa using ih
  obtain ⟨vsQ, _, hK, hst⟩ := Walk.values (mk := mkOf ms) hd (a0 := a) l ms 0 (fun _ => undef) (by simp) (by simp) (fun j m hj => by rw [Nat.zero_add]; exact hmk j m hj) (by
    have : frameQ l.toArray (mkOf ms) (fun _ => undef) a 0 = a := by
      unfold frameQ
      rw [frame_congr (M := fun _ => false) _ (fun j _ => by simp)]
      exact h0 _
    rw [this]; exact h)
  refine wp_region_any hm ?_
  have hq : ∀ i o, l.toArray[i]? = some o → (mkOf ms i).isT = false → (Region.wanted o (yielded l.toArray (frameQ l.toArray (mkOf ms) vsQ a i).tmps) = true ∧ StepOK P F o (frameQ l.toArray (mkOf ms) vsQ a i) (vsQ i)) ∨ (Region.wanted o (yielded l.toArray (frameQ l.toArray (mkOf ms) vsQ a i).tmps) = false ∧ vsQ i = undef) := by
    intro i o ho hT
    have hi : i < l.toArray.size := (Array.getElem?_eq_some_iff.1 ho).1
    have hh := List.all_eq_true.1 hok'.2 i (by simpa using hi)
    rw [Bool.and_eq_true] at hh
    have := hst i o (Nat.zero_le _) ho
    cases hmi : mkOf ms i with
    | q => rw [hmi] at this; exact this
    | p =>
      rw [hmi] at this
      rcases this with ⟨h1, h2⟩ | h
      · exact .inl ⟨h1, .inl fun w _ => h2 w⟩
      · exact .inr h
    | a cs t => rw [hmi] at hh; simp [Mark.isQ, Mark.isT] at hh
    | t => rw [hmi] at hT; cases hT
  have key := phaseC (P := P) (F := F) (QN := fun a w => Q .normal a w) (mk := mkOf ms) (Q := Q) (a00 := a) (vsQ := vsQ) hok (fun _ _ h => h) hq l.toArray.size (Array.replicate l.toArray.size false) vsQ a w.drew ((List.range l.toArray.size).filter (fun i => (mkOf ms i).isT)) C rfl (by simp) (by
      have := List.length_filter_le (fun j => !(Array.replicate l.toArray.size false).getD j true) (List.range l.toArray.size)
      simpa using this) (fun i j hi => by rw [repl_false] at hi; cases hi) (fun _ _ => rfl) (List.filter_congr fun j _ => by rw [repl_false]; simp) (hCx w w.drew hC ((Ext.refl w).drew)) hCx hCF ?_
  · rw [frame_congr (M := fun _ => false) l.toArray.size (fun j hj => repl_false _ _), h0] at key
    exact key
  · have e1 : frameQ l.toArray (mkOf ms) vsQ a l.toArray.size = frameOf l.toArray vsQ (fun j => !(mkOf ms j).isT || (Array.replicate l.toArray.size false).getD j false) a l.toArray.size := by
      unfold frameQ
      refine frame_congr _ fun j hj => ?_
      have hh := List.all_eq_true.1 hok'.2 j (by simpa using hj)
      rw [Bool.and_eq_true] at hh
      rw [repl_false, show decide (j < l.toArray.size) = true by simpa using hj]
      rcases (mkOf ms j).trio with ⟨a, b, c⟩ | ⟨a, b, c⟩ | ⟨a, b, c⟩ <;> simp [a, c] at hh ⊢
    rw [← e1]
    have e2 := chain_eq (ops := l.toArray) (mk := mkOf ms) l ms 0 hlen (by simp) (fun j m hj => by rw [Nat.zero_add]; exact hmk j m hj)
    rw [← List.range_eq_range'] at e2
    rw [show l.toArray.size = l.length by simp, e2]
    exact hK
end
end Go.Proofs.YtbfccjjnnkomcaaDoor
