/- A region of quiet operations, of new blocks, and of a tail that waits for them: walked in the order of the text, whatever order is drawn. For any program. -/
import Derived.Test.YtbfccjjnnkomcaaDoorStReg
namespace Go.Proofs.YtbfccjjnnkomcaaDoor
open Go.RowKit

/-- what an operation of a region is: quiet; pure (it may also come behind the tail); a new block; one of the tail -/
inductive Mark where
  | q
  | p
  | a (cs : List Value) (t : TypeId)
  | t
def Mark.isQ : Mark → Bool
  | .q => true
  | .p => true
  | _ => false
def Mark.isA : Mark → Bool
  | .a .. => true
  | _ => false
def Mark.isT : Mark → Bool
  | .t => true
  | _ => false
theorem Mark.trio (m : Mark) : (m.isQ = true ∧ m.isA = false ∧ m.isT = false) ∨ (m.isQ = false ∧ m.isA = true ∧ m.isT = false) ∨ (m.isQ = false ∧ m.isA = false ∧ m.isT = true) := by
  cases m <;> simp [Mark.isQ, Mark.isA, Mark.isT]

/-- i waits for j, straight or through others -/
def deps (ops : Array Oper) : Nat → Nat → Nat → Bool
  | 0, _, _ => false
  | f + 1, i, j => waits ops i j || (List.range ops.size).any fun k => waits ops i k && deps ops f k j
def tailOk (ops : Array Oper) (mk : Nat → Mark) : Bool :=
  fixedOk ops && (List.range ops.size).all fun i =>
    (!(mk i).isA || ((ops[i]?).map (·.guard.isNone)).getD false) &&
    (List.range ops.size).all fun j =>
      if (mk i).isT then (match mk j with
        | .q => deps ops 3 i j
        | .a .. => deps ops 3 i j
        | .t => !decide (j < i) || deps ops 3 i j
        | .p => true)
      else !(waits ops i j && !(mk j).isQ)

section
variable {P : Program} {ops : Array Oper} {mk : Nat → Mark}
theorem deps_closed {L : Nat → Bool} (hcl : ∀ i j, L i = true → waits ops i j = true → L j = true) : ∀ f i j, (∀ k, waits ops i k = true → L k = true) → deps ops f i j = true → L j = true
  | 0, _, _, _, h => by cases h
  | f + 1, i, j, hi, h => by
    unfold deps at h
    rw [Bool.or_eq_true] at h
    rcases h with h | h
    · exact hi j h
    · rw [List.any_eq_true] at h
      obtain ⟨k, _, hk⟩ := h
      rw [Bool.and_eq_true] at hk
      exact deps_closed hcl f k j (fun x hx => hcl k x (hi k hk.1) hx) hk.2

theorem frames_agree2 (hd : dstApart ops = true) (hl : looksOk ops = true) {vs us : Nat → Value} {L M : Nat → Bool} {a0 b0 : Act} (h0 : a0.tmps = b0.tmps) {i : Nat} {o : Oper} (hi : ops[i]? = some o)
    (h1 : ∀ j, j < i → waits ops i j = true → L j = true ∧ M j = true ∧ vs j = us j) (h2 : ∀ j, i < j → waits ops j i = true → L j = false ∧ M j = false)
    {t : Tmp} (ht : t ∈ o.looksAt ops) : (frameOf ops vs L a0 ops.size).tmps[t]? = (frameOf ops us M b0 ops.size).tmps[t]? := by
  have li : i < ops.size := (Array.getElem?_eq_some_iff.1 hi).1
  unfold looksOk at hl
  rw [List.all_eq_true] at hl
  have hli := hl i (by simpa using li)
  rw [hi] at hli
  simp only [Bool.and_eq_true] at hli
  have hlt := hli.2
  rw [List.all_eq_true] at hlt
  have hT := hlt t ht
  rw [List.all_eq_true] at hT
  by_cases hw : ∃ j, j < ops.size ∧ (ops[j]?).bind (·.dst) = some t
  · obtain ⟨j, lj, hj⟩ := hw
    have hJ := hT j (by simpa using lj)
    rw [hj] at hJ
    simp only [bne_self_eq_false, Bool.false_or, Bool.or_eq_true, Bool.and_eq_true, decide_eq_true_eq] at hJ
    rcases hJ with ⟨hji, hwt⟩ | ⟨hij, hwt⟩
    · obtain ⟨a, b, c⟩ := h1 j hji hwt
      rw [frame_at hd hj a _ lj, frame_at hd hj b _ lj, h0, c]
    · obtain ⟨a, b⟩ := h2 j hij hwt
      rw [frame_other _ (fun k _ hk e => by
          by_cases hkj : k = j
          · subst hkj; rw [a] at hk; cases hk
          · exact dst_spec hd (fun e => hkj e.symm) hj e),
        frame_other _ (fun k _ hk e => by
          by_cases hkj : k = j
          · subst hkj; rw [b] at hk; cases hk
          · exact dst_spec hd (fun e => hkj e.symm) hj e), h0]
  · have hno : ∀ k, k < ops.size → (ops[k]?).bind (·.dst) ≠ some t := fun k hk e => hw ⟨k, hk, e⟩
    rw [frame_other _ (fun k hk _ => hno k hk), frame_other _ (fun k hk _ => hno k hk), h0]

theorem frame_defers {vs : Nat → Value} {L : Nat → Bool} {a : Act} {ds : List Deferred} : ∀ n, frameOf ops vs L { a with defers := ds } n = { frameOf ops vs L a n with defers := ds }
  | 0 => rfl
  | n + 1 => by
    unfold frameOf
    rw [frame_defers n]
    split
    · cases (ops[n]?).bind (·.dst) <;> rfl
    · rfl

theorem wp_transfer {o : Oper} {a b : Act} {w : World} {K K' : Act → World → Prop} {QN Q : Exit → Act → World → Prop} (he : execOp b.eval o = execOp a.eval o) (hQ : ∀ e a w, QN e a w → e = .normal)
    (hk : ∀ v w', K (a.put o.dst v) w' → K' (b.put o.dst v) w') (hd : ∀ d w', K ({ a with defers := d :: a.defers }.put o.dst undef) w' → K' ({ b with defers := d :: b.defers }.put o.dst undef) w')
    (h : o.wp P a w K QN) : o.wp P b w K' Q := by
  unfold Oper.wp at *
  rw [he]
  revert h
  generalize (execOp a.eval o).run P w = r
  intro h
  match r, h with
  | .ok (.value v) w', h => exact hk v w' h
  | .ok .skip w', h => exact hk _ w' h
  | .ok (.defer d) w', h => exact hd d w' h
  | .ok (.enter f args) w', h =>
    refine Calls.mono (R := fun | .returned v, w'' => K (a.put o.dst v) w'' | .panicked chain, w'' => QN (.panic chain) a w'' | .outgrown, _ => LetsOut QN) h fun e w'' hx => ?_
    cases e with
    | returned v => exact hk v w'' hx
    | panicked c => cases hQ _ _ _ hx
    | outgrown => obtain ⟨_, _, hx⟩ := hx; cases hQ _ _ _ hx
  | .ok (.row row args) w', h => exact Rows.mono (R := fun v w'' => K (a.put o.dst v) w'') h fun v w'' hx => hk v w'' hx
  | .halt (.panic v) w', h => cases hQ _ _ _ h

theorem all_listed (hl : looksOk ops = true) {listed : Array Bool} (hs : listed.size = ops.size) (hr : Region.ready .any ops listed = []) : ∀ i, i < ops.size → listed.getD i false = true := by
  intro i
  induction i using Nat.strongRecOn with
  | _ i ih =>
    intro hi
    cases hb : listed.getD i false with
    | true => rfl
    | false =>
      have ho : ops[i]? = some ops[i] := Array.getElem?_eq_getElem hi
      have hmem : i ∈ Region.ready .any ops listed := mem_ready.2 ⟨by
        have hli : i < listed.size := by omega
        simpa [Array.getD_eq_getD_getElem?, hli] using hb, _, ho, fun e he hbd => by
          have hl' := hl
          unfold looksOk at hl'
          rw [List.all_eq_true] at hl'
          have h1 := hl' i (by simpa using hi)
          rw [ho] at h1
          simp only [Bool.and_eq_true] at h1
          have h2 := h1.1.2
          have h3 := (Array.all_eq_true_iff_forall_mem.1 h2) e he
          rw [hbd] at h3
          simp at h3
          exact ih e.on h3 (by omega)⟩
      rw [hr] at hmem
      cases hmem
end
end Go.Proofs.YtbfccjjnnkomcaaDoor
