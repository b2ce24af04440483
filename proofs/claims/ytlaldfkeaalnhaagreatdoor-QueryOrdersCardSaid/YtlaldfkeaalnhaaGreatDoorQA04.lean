/- Texts joined: A drawn region of quiet operations and of one call, whose result parts; behind it all wait for it. For any program. In a drawn region: an operation that only computes may be taken first, wherever it stands. For any program. slices of numbers: what they hold. In a round of a range over a function, and in an iterator: regions and appends under Hp. For any program. A walk with things that are no cells (loops, what waits): what is made of cells lies as it lay. For any program. schema.Name: what it answers. slices of strings: what their cells hold. Slices of values: what their cells hold. Bytes that a call builds; numbers written seven bits a byte: encode.number, signed, one. Conditions in memory. ask: tokens, conditions as text, what is written: plain. ask: what is written is read: tokens (plain). ask: what is written is read: conditions (plain). ask: what is written is read: the parser (plain). ask: what is read is such as is written; what is written is read (plain). An argument that is a slice of values: what its cells hold. ask: what is asked, as text: plain. -/
import Derived.Test.YtlaldfkeaalnhaaGreatDoorQA03
import Derived.Great.BuildSlice
import Derived.Test.YtlaldfkeaalnhaaGreatDoorProg
import Derived.RangeFuncNested
import Derived.RangeFuncBound
import Derived.RangeFuncCalls
import Derived.RangeFuncLeaves
import Derived.Shelf.Abstract
import Derived.Shelf.RegionOpen
import Derived.WalkKit
import Derived.OwnWalkIn
import Derived.TacticsInMore
import Derived.LoopNIn
import Derived.LoopIn
import Derived.Laws.Tables
import Derived.Test.YtlaldfkeaalnhaaGreatDoorQA01
import Derived.Test.YtlaldfkeaalnhaaGreatDoorQA02
import Derived.Shelf.Strings.SlTrimAscii
import Derived.Lib.VarintBits
import Derived.Lib.Varint
import Derived.Lib.Zigzag
/- A drawn region of quiet operations and of one call, whose result parts; behind it all wait for it. For any program. -/
namespace Go.Proofs.YtlaldfkeaalnhaaGreatDoor
set_option linter.all false
open Go.RowKit
section
variable {P : Program} {ops : Array Oper} {F : World → Prop}

/-- the walk in the order of the text: n quiet operations, the call, the others -/
def CallWalk (P : Program) (ops : Array Oper) (F : World → Prop) (K : Act → World → Prop) : Nat → List Oper → Act → Prop
  | _, [], _ => False
  | 0, o :: rest, a => Region.wanted o (yielded ops a.tmps) = true ∧ ∀ w, F w → o.wp P a w (fun a' w' => ∃ (v : Value) (F2 : World → Prop), a' = a.put o.dst v ∧ F2 w' ∧ (∀ w w', F2 w → Ext w w' → F2 w') ∧ (∀ w, F2 w → F w) ∧ Fixed P ops F2 (fun a' => ∀ w', F2 w' → K a' w') rest (a.put o.dst v)) (fun _ _ _ => False)
  | n + 1, o :: rest, a => (Region.wanted o (yielded ops a.tmps) = true ∧ ∃ v, StepOK P F o a v ∧ CallWalk P ops F K n rest (a.put o.dst v)) ∨ (Region.wanted o (yielded ops a.tmps) = false ∧ CallWalk P ops F K n rest (a.put o.dst undef))

/-- out of the walk: the values ahead of the call -/
theorem CallWalk.values {K : Act → World → Prop} {a0 : Act} : ∀ (n k : Nat) (rest : List Oper) (us : Nat → Value), (∀ j, rest[j]? = ops[k + j]?) → CallWalk P ops F K n rest (frameTo ops us a0 k) →
    ∃ (vs : Nat → Value) (o : Oper), (∀ j, j < k → vs j = us j) ∧ rest[n]? = some o ∧ CallWalk P ops F K 0 (o :: rest.drop (n + 1)) (frameTo ops vs a0 (k + n)) ∧ ∀ i o', k ≤ i → i < k + n → ops[i]? = some o' →
      (Region.wanted o' (yielded ops (frameTo ops vs a0 i).tmps) = true ∧ StepOK P F o' (frameTo ops vs a0 i) (vs i)) ∨ (Region.wanted o' (yielded ops (frameTo ops vs a0 i).tmps) = false ∧ vs i = undef)
  | n, k, [], us, _, h => by cases n <;> exact h.elim
  | 0, k, o :: rest, us, hr, h => ⟨us, o, fun _ _ => rfl, rfl, h, fun i o' h1 h2 => by omega⟩
  | n + 1, k, o :: rest, us, hr, h => by
    have ho : ops[k]? = some o := by simpa using (hr 0).symm
    have hr' : ∀ j, rest[j]? = ops[k + 1 + j]? := fun j => by
      have := hr (j + 1)
      simpa [Nat.add_assoc, Nat.add_comm 1 j] using this
    have hput : ∀ v, frameTo ops (fun j => if j = k then v else us j) a0 (k + 1) = (frameTo ops us a0 k).put o.dst v := fun v => by
      unfold frameTo
      conv => lhs; unfold frameOf
      rw [if_pos rfl, if_pos rfl, ho, frame_vs (us := us) k (fun i hi => if_neg (by omega))]
      rfl
    have hkeep : ∀ v vs, (∀ j, j < k + 1 → vs j = (if j = k then v else us j)) → frameTo ops vs a0 k = frameTo ops us a0 k := fun v vs hvs => by
      exact frame_vs _ fun j hj => by rw [hvs j (by omega), if_neg (by omega)]
    rcases h with ⟨hw, v, hs, h⟩ | ⟨hw, h⟩
    · obtain ⟨vs, o2, h1, h2, h3, h4⟩ := CallWalk.values n (k + 1) rest (fun j => if j = k then v else us j) hr' (by rw [hput]; exact h)
      refine ⟨vs, o2, fun j hj => by rw [h1 j (by omega), if_neg (by omega)], by simpa using h2, by rw [show k + (n + 1) = k + 1 + n by omega]; simpa using h3, fun i o' hi hi2 ho' => ?_⟩
      by_cases e : i = k
      · subst e
        obtain rfl : o = o' := Option.some.inj (ho.symm.trans ho')
        rw [hkeep v vs h1, h1 i (by omega), if_pos rfl]
        exact .inl ⟨hw, hs⟩
      · exact h4 i o' (by omega) (by omega) ho'
    · obtain ⟨vs, o2, h1, h2, h3, h4⟩ := CallWalk.values n (k + 1) rest (fun j => if j = k then undef else us j) hr' (by rw [hput]; exact h)
      refine ⟨vs, o2, fun j hj => by rw [h1 j (by omega), if_neg (by omega)], by simpa using h2, by rw [show k + (n + 1) = k + 1 + n by omega]; simpa using h3, fun i o' hi hi2 ho' => ?_⟩
      by_cases e : i = k
      · subst e
        obtain rfl : o = o' := Option.some.inj (ho.symm.trans ho')
        rw [hkeep undef vs h1, h1 i (by omega), if_pos rfl]
        exact .inr ⟨hw, rfl⟩
      · exact h4 i o' (by omega) (by omega) ho'

theorem StepOK.less {F2 : World → Prop} {o : Oper} {a : Act} {v : Value} (h : StepOK P F o a v) (hs : ∀ w, F2 w → F w) : StepOK P F2 o a v := by
  rcases h with h | ⟨f, args, h1, h2⟩
  · exact .inl fun w hw => h w (hs w hw)
  · exact .inr ⟨f, args, fun w hw => h1 w (hs w hw), fun w hw => h2 w (hs w hw)⟩

variable {B : Nat} {w0 : World} {L : List Item} {o : Oper} {rest : List Oper} {a : Act} {K : Act → World → Prop} {n : Nat}
theorem CallWalk.here {l : List Oper} (h : CallWalk P ops F K n l a) : CallWalk P ops F K n l a := h
theorem CallWalk.skip (hw : Region.wanted o (yielded ops a.tmps) = false) (h : CallWalk P ops F K n rest (a.put o.dst undef)) : CallWalk P ops F K (n + 1) (o :: rest) a := .inr ⟨hw, h⟩
theorem CallWalk.val {v : Value} (hw : Region.wanted o (yielded ops a.tmps) = true) (hr : ∀ w, F w → (execOp a.eval o).run P w = .ok (.value v) w) (h : CallWalk P ops F K n rest (a.put o.dst v)) : CallWalk P ops F K (n + 1) (o :: rest) a := .inl ⟨hw, v, .inl hr, h⟩
theorem CallWalk.quiet {v : Value} {f : FuncId} {args : Array Value} (hw : Region.wanted o (yielded ops a.tmps) = true) (hr : ∀ w, F w → (execOp a.eval o).run P w = .ok (.enter f args) w)
    (hc : ∀ w, F w → Calls P f args w fun e w' => e = .returned v ∧ Ext w w') (h : CallWalk P ops F K n rest (a.put o.dst v)) : CallWalk P ops F K (n + 1) (o :: rest) a := .inl ⟨hw, v, .inr ⟨f, args, hr, hc⟩, h⟩
theorem CallWalk.call {f : FuncId} {args : Array Value} (hw : Region.wanted o (yielded ops a.tmps) = true) (hr : ∀ w, Hp B w0 w L → (execOp a.eval o).run P w = .ok (.enter f args) w)
    (hc : ∀ w, Hp B w0 w L → Calls P f args w fun e w' => ∃ (v : Value) (L2 : List Item), e = .returned v ∧ Hp B w0 w' L2 ∧ (∀ w, Hp B w0 w L2 → Hp B w0 w L) ∧ Fixed P ops (fun W => Hp B w0 W L2) (fun a' => ∀ w', Hp B w0 w' L2 → K a' w') rest (a.put o.dst v)) :
    CallWalk P ops (fun W => Hp B w0 W L) K 0 (o :: rest) a := by
  refine ⟨hw, fun w hS => ?_⟩
  unfold Oper.wp
  rw [hr w hS]
  refine (hc w hS).mono fun e w' ⟨v, L2, h1, h2, h3, h4⟩ => ?_
  subst h1
  exact ⟨v, fun W => Hp B w0 W L2, rfl, h2, fun _ _ h hx => h.step hx, h3, h4⟩
end
end Go.Proofs.YtlaldfkeaalnhaaGreatDoor

/- In a drawn region: an operation that only computes may be taken first, wherever it stands. For any program. -/
namespace Go.Proofs.YtlaldfkeaalnhaaGreatDoor
set_option linter.all false
open Go.RowKit
section
variable {P : Program} {ops : Array Oper} {F : World → Prop} {QN : Act → World → Prop} {z : Nat}
theorem put_look {a : Act} {d : Option Tmp} {u : Value} {t : Tmp} (h : d ≠ some t) : (a.put d u).tmps[t]? = a.tmps[t]? := by
  cases d with
  | none => rfl
  | some d =>
    show (a.tmps.setIfInBounds d u)[t]? = _
    rw [Array.getElem?_setIfInBounds_ne (by intro e; exact h (by rw [e]))]
theorem put_comm {a : Act} {d e : Option Tmp} {u v : Value} (h : e = none ∨ e ≠ d) : (a.put d u).put e v = (a.put e v).put d u := by
  cases d with
  | none => cases e <;> rfl
  | some d =>
    cases e with
    | none => rfl
    | some e =>
      have hne : d ≠ e := fun x => (h.resolve_left (by simp)) (by rw [x])
      show ({ a with tmps := (a.tmps.setIfInBounds d u).setIfInBounds e v } : Act) = { a with tmps := (a.tmps.setIfInBounds e v).setIfInBounds d u }
      rw [Array.setIfInBounds_comm _ _ hne]
theorem put_def {a : Act} {d : Option Tmp} {u : Value} {ds : List Deferred} : ({ (a.put d u) with defers := ds } : Act) = ({ a with defers := ds } : Act).put d u := by cases d <;> rfl
/-- an operation that neither looks at what the others make nor is looked at -/
def earlyOk (ops : Array Oper) (i : Nat) (rest : List Nat) : Bool := match ops[i]? with
  | none => false
  | some o => rest.all fun k => k == i || waits ops k i || (match ops[k]? with
    | none => true
    | some p => (p.looksAt ops).all (fun t => o.dst != some t) && (o.looksAt ops).all (fun t => p.dst != some t) && (p.dst == none || p.dst != o.dst))
theorem earlyOk_spec {i k : Nat} {rest : List Nat} {o p : Oper} (h : earlyOk ops i rest = true) (ho : ops[i]? = some o) (hk : k ∈ rest) (hki : k ≠ i) (hw : waits ops k i = false) (hp : ops[k]? = some p) :
    (∀ t ∈ p.looksAt ops, o.dst ≠ some t) ∧ (∀ t ∈ o.looksAt ops, p.dst ≠ some t) ∧ (p.dst = none ∨ p.dst ≠ o.dst) := by
  unfold earlyOk at h
  rw [ho] at h
  simp only at h
  have h1 := List.all_eq_true.1 h k hk
  rw [hw, hp, beq_false_of_ne hki, Bool.false_or, Bool.false_or] at h1
  simp only [Bool.and_eq_true, Bool.or_eq_true, List.all_eq_true, bne_iff_ne, beq_iff_eq] at h1
  exact ⟨h1.1.1, h1.1.2, h1.2⟩
theorem earlyOk_sub {i : Nat} {rest rest' : List Nat} (h : earlyOk ops i rest = true) (hs : ∀ k ∈ rest', k ∈ rest) : earlyOk ops i rest' = true := by
  unfold earlyOk at *
  split
  · rename_i e; rw [e] at h; cases h
  · rename_i o e
    rw [e] at h
    exact List.all_eq_true.2 fun k hk => List.all_eq_true.1 h k (hs k hk)
theorem BraidZ.early (hl : looksOk ops = true) {i : Nat} {o : Oper} {v : Value} (ho : ops[i]? = some o) (hzi : z ≤ i) : ∀ (f : Nat) (rest : List Nat) (a : Act) (C : World → Prop), i ∈ rest → earlyOk ops i rest = true →
    ((Region.wanted o (yielded ops a.tmps) = true ∧ PureOK P o a v) ∨ (Region.wanted o (yielded ops a.tmps) = false ∧ v = undef)) → (∀ w w', C w → Ext w w' → C w') →
    BraidZ P ops F QN z f (rest.filter (· != i)) (a.put o.dst v) C → BraidZ P ops F QN z (f + 1) rest a C := by
  intro f
  induction f with
  | zero =>
    intro rest a C hi hok hv hC h
    refine ⟨fun e => (by rw [e] at hi; cases hi), fun k hk hw p hp => ?_⟩
    have hki : k = i := by
      by_cases e : k = i
      · exact e
      · exfalso
        have : k ∈ rest.filter (· != i) := List.mem_filter.2 ⟨hk, by simpa using e⟩
        rw [h.1] at this
        cases this
    subst hki
    obtain rfl : o = p := Option.some.inj (ho.symm.trans hp)
    rcases hv with ⟨h1, h2⟩ | ⟨h1, rfl⟩
    · refine .inl ⟨h1, fun w hw => ?_⟩
      unfold Oper.wp
      rw [h2 w]
      exact ⟨C, hw, hC, .inl (decide_eq_true hzi), h⟩
    · exact .inr ⟨h1, h⟩
  | succ f ih =>
    intro rest a C hi hok hv hC h
    refine ⟨fun e => (by rw [e] at hi; cases hi), fun k hk hw p hp => ?_⟩
    by_cases hki : k = i
    · subst hki
      obtain rfl : o = p := Option.some.inj (ho.symm.trans hp)
      rcases hv with ⟨h1, h2⟩ | ⟨h1, rfl⟩
      · refine .inl ⟨h1, fun w hw => ?_⟩
        unfold Oper.wp
        rw [h2 w]
        exact ⟨C, hw, hC, .inl (decide_eq_true hzi), h⟩
      · exact .inr ⟨h1, h⟩
    · obtain ⟨s1, s2, s3⟩ := earlyOk_spec hok ho hk hki (hw i hi) hp
      have hm : k ∈ rest.filter (· != i) := List.mem_filter.2 ⟨hk, by simpa using hki⟩
      have hz := h.2 k hm (fun j hj => hw j (List.mem_filter.1 hj).1) p hp
      have hag : ∀ (b : Act), b.tmps = a.tmps → ∀ t ∈ p.looksAt ops, (b.put o.dst v).tmps[t]? = a.tmps[t]? := fun b hb t ht => by rw [put_look (s1 t ht), hb]
      have hii : i ∈ rest.filter (· != k) := List.mem_filter.2 ⟨hi, by simpa using fun e : i = k => hki e.symm⟩
      have hok2 : earlyOk ops i (rest.filter (· != k)) = true := earlyOk_sub hok fun j hj => (List.mem_filter.1 hj).1
      have hfl : (rest.filter (· != i)).filter (· != k) = (rest.filter (· != k)).filter (· != i) := by
        rw [List.filter_filter, List.filter_filter]
        exact List.filter_congr fun x _ => Bool.and_comm _ _
      have hv2 : ∀ (b : Act) (u : Value), b.tmps = a.tmps → (Region.wanted o (yielded ops (b.put p.dst u).tmps) = true ∧ PureOK P o (b.put p.dst u) v) ∨ (Region.wanted o (yielded ops (b.put p.dst u).tmps) = false ∧ v = undef) := fun b u hb => by
        have hg : ∀ t ∈ o.looksAt ops, (b.put p.dst u).tmps[t]? = a.tmps[t]? := fun t ht => by rw [put_look (s2 t ht), hb]
        rw [wanted_agree hg]
        rcases hv with ⟨h1, h2⟩ | ⟨h1, h2⟩
        · refine .inl ⟨h1, fun w => ?_⟩
          rw [exec_agree hl ho hg]
          exact h2 w
        · exact .inr ⟨h1, h2⟩
      have hgo : ∀ (b : Act) (u : Value) (C' : World → Prop), b.tmps = a.tmps → (∀ w w', C' w → Ext w w' → C' w') → BraidZ P ops F QN z f ((rest.filter (· != i)).filter (· != k)) ((b.put o.dst v).put p.dst u) C' → BraidZ P ops F QN z (f + 1) (rest.filter (· != k)) (b.put p.dst u) C' := fun b u C' hb hC' hB => by
        refine ih _ _ _ hii hok2 (hv2 b u hb) hC' ?_
        rw [hfl, put_comm s3] at hB
        exact hB
      rcases hz with ⟨hwt, hz⟩ | ⟨hwt, hz⟩
      · refine .inl ⟨by rw [← wanted_agree (hag a rfl)]; exact hwt, fun w hCw => ?_⟩
        refine wp_transfer (a := a.put o.dst v) (exec_agree hl hp fun t ht => (hag a rfl t ht).symm) (fun _ _ _ h => h.elim) (fun u w' h => ?_) (fun d w' h => ?_) (hz w hCw)
        · obtain ⟨C', h1, h2, h3, h4⟩ := h
          exact ⟨C', h1, h2, h3, hgo a u C' rfl h2 h4⟩
        · obtain ⟨C', h1, h2, h3, h4⟩ := h
          refine ⟨C', h1, h2, h3, hgo { a with defers := d :: a.defers } undef C' rfl h2 ?_⟩
          rw [put_def] at h4
          rw [show (a.put o.dst v).defers = a.defers by cases o.dst <;> rfl] at h4
          exact h4
      · refine .inr ⟨by rw [← wanted_agree (hag a rfl)]; exact hwt, ?_⟩
        exact hgo a undef C rfl hC hz
/-- an operation that only computes, taken first -/
def EStep (P : Program) (ops : Array Oper) (K : Act → Prop) (o : Oper) (a : Act) : Prop :=
  ∃ v, ((Region.wanted o (yielded ops a.tmps) = true ∧ PureOK P o a v) ∨ (Region.wanted o (yielded ops a.tmps) = false ∧ v = undef)) ∧ K (a.put o.dst v)
theorem EStep.val {K : Act → Prop} {o : Oper} {a : Act} {v : Value} (hw : Region.wanted o (yielded ops a.tmps) = true) (hp : PureOK P o a v) (h : K (a.put o.dst v)) : EStep P ops K o a := ⟨v, .inl ⟨hw, hp⟩, h⟩
theorem EStep.skip {K : Act → Prop} {o : Oper} {a : Act} (hw : Region.wanted o (yielded ops a.tmps) = false) (h : K (a.put o.dst undef)) : EStep P ops K o a := ⟨undef, .inr ⟨hw, rfl⟩, h⟩
theorem BraidZ.earlyN {i f : Nat} {o : Oper} {rest : List Nat} {a : Act} {C : World → Prop} (hl : looksOk ops = true) (hz : decide (z ≤ i) = true) (hi : rest.contains i = true) (hok : earlyOk ops i rest = true) (ho : ops[i]? = some o) (hC : ∀ w w', C w → Ext w w' → C w')
    (h : EStep P ops (fun a' => BraidZ P ops F QN z f (rest.filter (· != i)) a' C) o a) : BraidZ P ops F QN z (f + 1) rest a C := by
  obtain ⟨v, hv, hB⟩ := h
  exact BraidZ.early hl ho (of_decide_eq_true hz) f rest a C (by simpa using hi) hok hv hC hB
end
end Go.Proofs.YtlaldfkeaalnhaaGreatDoor

/- slices of numbers: what they hold. -/
namespace Go.Proofs.YtlaldfkeaalnhaaGreatDoor
set_option linter.all false
set_option linter.unusedSimpArgs false
set_option linter.unusedVariables false
open Go.RowKit
abbrev intsV (F : List Int) : List Value := F.map (Value.int .i64)
theorem Tryz.elem_ints : Elem Tryz.prog 91 3 1 8 := by
  obtain ⟨i0, hi0, hz0, hz1, hz2⟩ := info_parts (show (Tryz.prog.info? 3).map (fun i => (i.zero, i.size, i.bytes)) = some (some (.int .i64 0), 1, 8) by kernel_rfl)
  exact ⟨Tryz.underlying91, ⟨i0, _, hi0, hz0, hz1, hz2, rfl⟩, by omega⟩
/-- the slice at A reads as F -/
def RI (w : World) (A : Option Addr) (F : List Int) : Prop := ∀ (k : Nat) (x : Int), F[k]? = some x → ∃ b o : Nat, A = some ⟨b, o, none⟩ ∧ w.cell? ⟨b, o + k, none⟩ = some (.int .i64 x)
theorem RI.ext {w w' : World} {A : Option Addr} {l : List Int} (h : RI w A l) (hx : Ext w w') : RI w' A l := fun k s hk => by
  obtain ⟨b, o, e, c⟩ := h k s hk
  exact ⟨b, o, e, hx.keeps c⟩
theorem intsV_get (l : List Int) (k : Nat) : (intsV l)[k]? = l[k]?.map (Value.int .i64) := by simp [intsV]
theorem addr_plus (b o j : Nat) : (⟨b, o, none⟩ : Addr).add j = ⟨b, o + j, none⟩ := by unfold Addr.add; split <;> simp_all
end Go.Proofs.YtlaldfkeaalnhaaGreatDoor

/- In a round of a range over a function, and in an iterator: regions and appends under Hp. For any program. -/
namespace Go.Proofs.YtlaldfkeaalnhaaGreatDoor
set_option linter.all false
open Go.RowKit
attribute [local go_sem] Oper.semAt_some
/-- a fence that lets all through: calls go as everywhere -/
structure Open (F : Fence) : Prop where
  fn : ∀ f, F.fn f
  depth : F.depth = none
  calls : ∀ {n : Nat} {P : Program} {f : FuncId} {args : Array Value} {w : World} {R : Ending → World → Prop}, Calls P f args w R → CallsIn F n P f args w R
  rows : ∀ {n : Nat} {P : Program} {row : String} {args : Array Value} {w : World} {R : Value → World → Prop}, Rows P row args w R → RowsIn F n P row args w R
theorem open_wide : Open Fence.wide where
  fn := fun _ => trivial
  depth := rfl
  calls := fun h => callsIn_wide.2 h
  rows := fun h c cs _ => let ⟨v, w', r, s⟩ := h c cs; ⟨v, w', r, stepsIn_wide.2 s⟩
theorem Open.inRound {F : Fence} (h : Open F) (l : Nat) : Open (F.inRound l) where
  fn := h.fn
  depth := h.depth
  calls := fun k => CallsIn.inRound l (h.calls k)
  rows := fun k => h.rows (F := F) k
section
variable {F : Fence} {n : Nat} {P : Program} {ops : Array Oper} {B : Nat} {w0 : World} {L : List Item}
def noDefer (o : Oper) : Bool := match o.op with | .defer _ => false | _ => true
theorem operIn_of (hF : Open F) {o : Oper} (hnd : noDefer o = true) {a : Act} {w : World} {K K' : Act → World → Prop} {Q Q' : Exit → Act → World → Prop} (hK : ∀ a w, K a w → K' a w) (hQ : ∀ e a w, Q e a w → e = .normal) (h : o.wp P a w K Q) : o.wpIn F n P a w K' Q' := by
  have hs : o.semAt F.round a.eval = execOp a.eval o := by
    refine Oper.semAt_eq _ _ _ fun c e => ?_
    unfold noDefer at hnd
    rw [e] at hnd
    cases hnd
  refine ⟨fun f _ => hF.fn f, ?_⟩
  rw [hs]
  unfold Oper.wp at h
  generalize (execOp a.eval o).run P w = r at *
  cases r with
  | ok x w' =>
    cases x <;> simp only [Oper.upon, Oper.uponIn] at h ⊢
    case value => exact hK _ _ h
    case skip => exact hK _ _ h
    case defer => exact hK _ _ h
    case enter => exact ⟨fun hd => (by rw [hF.depth] at hd; cases hd), hF.calls (h.mono fun e w'' he => by
      cases e with
      | returned v => exact hK _ _ he
      | panicked chain => exact absurd (hQ _ _ _ he) (by simp)
      | outgrown => obtain ⟨a2, w2, h2⟩ := he; exact absurd (hQ _ _ _ h2) (by simp))⟩
    case row => exact ⟨fun hd => (by rw [hF.depth] at hd; cases hd), hF.rows (fun c cs => let ⟨v, w2, r, s⟩ := h c cs; ⟨v, w2, hK _ _ r, s⟩)⟩
  | halt x w' =>
    cases x <;> simp only [Oper.upon, Oper.uponIn] at h ⊢
    case panic => exact absurd (hQ _ _ _ h) (by simp)
theorem anyIn_of (hF : Open F) {Q : Exit → Act → World → Prop} (hnd : ops.all noDefer = true) : ∀ (fuel : Nat) (listed : Array Bool) (a : Act) (w : World), wpAny P .any ops (fun e a w => e = .normal ∧ Q e a w) fuel listed a w → wpAnyIn F n P .any ops Q fuel listed a w
  | 0, listed, a, w, h => ⟨h.1, h.2.2⟩
  | fuel + 1, listed, a, w, h => by
    refine ⟨fun hr => (h.1 hr).2, fun i hi => ?_⟩
    have hw := h.2 i hi
    unfold wpOp at hw
    unfold wpOpIn
    cases ho : ops[i]? with
    | none => rw [ho] at hw; exact anyIn_of hF hnd fuel _ _ _ hw
    | some o =>
      rw [ho] at hw
      simp only at hw ⊢
      have hd : noDefer o = true := by
        have := Array.all_eq_true_iff_forall_mem.1 hnd o (Array.mem_of_getElem? ho)
        exact this
      split
      · rename_i hwt
        rw [if_pos hwt] at hw
        rcases hw with hw | hw
        · exact operIn_of hF hd (fun a w h => anyIn_of hF hnd fuel _ a w h) (fun e a w h => h.1) hw
        · obtain ⟨_, a2, w2, h2, _⟩ := hw
          cases h2
      · rename_i hwt
        rw [if_neg hwt] at hw
        exact ⟨fun f _ => hF.fn f, anyIn_of hF hnd fuel _ _ _ hw⟩
theorem wpIn_region_braidz_hp (hF : Open F) {a : Act} {w : World} {Q : Exit → Act → World → Prop} {id : Nat} {l : List Oper} (ms : List Mark) (z : Nat) (LF : List Item) (hm : P.follows .mixedOrders = true) (hnd : l.toArray.all noDefer = true) (hlen : l.length = ms.length) (hok : braidZ l.toArray (mkOf ms) z = true)
    (hS : Hp B w0 w L) (hLF : ∀ w, Hp B w0 w L → Hp B w0 w LF)
    (h : Walk P l.toArray (fun W => Hp B w0 W LF) (fun a' => BraidZ P l.toArray (fun W => Hp B w0 W LF) (fun a w => Q .normal a w) z (braidsOf ms).length (braidsOf ms) a' (fun W => Hp B w0 W L)) ms l a) : (Code.region id l.toArray true).wpIn F n P Q a w :=
  wpIn_region_any hm (anyIn_of hF hnd _ _ _ _ (any_region_braidz (Q := fun e a w => e = .normal ∧ Q e a w) ms z (fun W => Hp B w0 W LF) (fun _ _ h => ⟨rfl, h⟩) hlen hok hS (fun _ _ h hx => h.step hx) hLF h))

theorem wpIn_region_fixed (hF : Open F) {G : World → Prop} {Q : Exit → Act → World → Prop} {id : Nat} {l : List Oper} {a : Act} {w : World} (hm : P.follows .mixedOrders = true) (hnd : l.toArray.all noDefer = true) (hok : fixedOk l.toArray = true)
    (hcl : ∀ w w', G w → Ext w w' → G w') (hG : G w) (h : Fixed P l.toArray G (fun a' => ∀ w', Ext w w' → G w' → Q .normal a' w') l a) : (Code.region id l.toArray true).wpIn F n P Q a w := by
  have hd : dstApart l.toArray = true := by simp only [fixedOk, Bool.and_eq_true] at hok; exact hok.1
  have hl : looksOk l.toArray = true := by simp only [fixedOk, Bool.and_eq_true] at hok; exact hok.2
  obtain ⟨vs, _, hK, hst⟩ := Fixed.values (a0 := a) l 0 (fun _ => undef) (by simp) (by simp) h
  refine wpIn_region_any hm (anyIn_of hF hnd _ _ _ _ ?_)
  have := wpAny_fixed (Q := fun e a w => e = .normal ∧ Q e a w) hd hl hcl (fun i o ho => hst i o (Nat.zero_le _) ho) (fun w' h1 h2 => ⟨rfl, hK w' h1 h2⟩) l.toArray.size (Array.replicate l.toArray.size false) w.drew (by simp) (by
    have := List.length_filter_le (fun j => !(Array.replicate l.toArray.size false).getD j true) (List.range l.toArray.size)
    simpa using this) (fun i j hi => by rw [repl_false] at hi; cases hi) (hcl w w.drew hG ((Ext.refl w).drew)) ((Ext.refl w).drew)
  rw [frame_congr (M := fun _ => false) l.toArray.size (fun j hj => repl_false _ _)] at this
  rw [show frameOf l.toArray vs (fun _ => false) a l.toArray.size = a from by
    generalize l.toArray.size = n
    induction n with
    | zero => rfl
    | succ n ih => unfold frameOf; simpa using ih] at this
  exact this
theorem niLa {W : World} {o : Obj} {Q : Exit → Act → World → Prop} {l : List Oper} {a : Act} (k : ∀ w, Hp B w0 w L → wpListIn F n P ops Q l a w) (h : Hp B w0 (W.alloc o) L := by (repeat (first | with_reducible exact hS | with_reducible apply Hp.drew | with_reducible apply Hp.alloc | with_reducible apply Hp.put | with_reducible apply atS | with_reducible exact at0 | with_reducible exact at1 | with_reducible exact at2 | with_reducible exact at3 | with_reducible exact at4 | with_reducible exact at5))) : wpListIn F n P ops Q l a (W.alloc o) := k _ h
theorem niLs {W : World} {p : Addr} {u : Value} {Q : Exit → Act → World → Prop} {l : List Oper} {a : Act} (k : ∀ w, Hp B w0 w L → wpListIn F n P ops Q l a w) (h : Hp B w0 (W.setCell p u) L := by (repeat (first | with_reducible exact hS | with_reducible apply Hp.drew | with_reducible apply Hp.alloc | with_reducible apply Hp.put | with_reducible apply atS | with_reducible exact at0 | with_reducible exact at1 | with_reducible exact at2 | with_reducible exact at3 | with_reducible exact at4 | with_reducible exact at5))) : wpListIn F n P ops Q l a (W.setCell p u) := k _ h
theorem niLd {W : World} {Q : Exit → Act → World → Prop} {l : List Oper} {a : Act} (k : ∀ w, Hp B w0 w L → wpListIn F n P ops Q l a w) (h : Hp B w0 W.drew L := by (repeat (first | with_reducible exact hS | with_reducible apply Hp.drew | with_reducible apply Hp.alloc | with_reducible apply Hp.put | with_reducible apply atS | with_reducible exact at0 | with_reducible exact at1 | with_reducible exact at2 | with_reducible exact at3 | with_reducible exact at4 | with_reducible exact at5))) : wpListIn F n P ops Q l a W.drew := k _ h
theorem niCa {W : World} {o : Obj} {c : Code} {Q : Exit → Act → World → Prop} {a : Act} (k : ∀ w, Hp B w0 w L → Code.wpIn F n P c Q a w) (h : Hp B w0 (W.alloc o) L := by (repeat (first | with_reducible exact hS | with_reducible apply Hp.drew | with_reducible apply Hp.alloc | with_reducible apply Hp.put | with_reducible apply atS | with_reducible exact at0 | with_reducible exact at1 | with_reducible exact at2 | with_reducible exact at3 | with_reducible exact at4 | with_reducible exact at5))) : Code.wpIn F n P c Q a (W.alloc o) := k _ h
theorem niCs {W : World} {p : Addr} {u : Value} {c : Code} {Q : Exit → Act → World → Prop} {a : Act} (k : ∀ w, Hp B w0 w L → Code.wpIn F n P c Q a w) (h : Hp B w0 (W.setCell p u) L := by (repeat (first | with_reducible exact hS | with_reducible apply Hp.drew | with_reducible apply Hp.alloc | with_reducible apply Hp.put | with_reducible apply atS | with_reducible exact at0 | with_reducible exact at1 | with_reducible exact at2 | with_reducible exact at3 | with_reducible exact at4 | with_reducible exact at5))) : Code.wpIn F n P c Q a (W.setCell p u) := k _ h
theorem niCd {W : World} {c : Code} {Q : Exit → Act → World → Prop} {a : Act} (k : ∀ w, Hp B w0 w L → Code.wpIn F n P c Q a w) (h : Hp B w0 W.drew L := by (repeat (first | with_reducible exact hS | with_reducible apply Hp.drew | with_reducible apply Hp.alloc | with_reducible apply Hp.put | with_reducible apply atS | with_reducible exact at0 | with_reducible exact at1 | with_reducible exact at2 | with_reducible exact at3 | with_reducible exact at4 | with_reducible exact at5))) : Code.wpIn F n P c Q a W.drew := k _ h
theorem niPa {W : World} {o : Obj} {fn : Func} {R : Ending → World → Prop} {x : Exit} {a : Act} (k : ∀ w, Hp B w0 w L → bodyPostM F n P fn R x a w) (h : Hp B w0 (W.alloc o) L := by (repeat (first | with_reducible exact hS | with_reducible apply Hp.drew | with_reducible apply Hp.alloc | with_reducible apply Hp.put | with_reducible apply atS | with_reducible exact at0 | with_reducible exact at1 | with_reducible exact at2 | with_reducible exact at3 | with_reducible exact at4 | with_reducible exact at5))) : bodyPostM F n P fn R x a (W.alloc o) := k _ h
theorem niPs {W : World} {p : Addr} {u : Value} {fn : Func} {R : Ending → World → Prop} {x : Exit} {a : Act} (k : ∀ w, Hp B w0 w L → bodyPostM F n P fn R x a w) (h : Hp B w0 (W.setCell p u) L := by (repeat (first | with_reducible exact hS | with_reducible apply Hp.drew | with_reducible apply Hp.alloc | with_reducible apply Hp.put | with_reducible apply atS | with_reducible exact at0 | with_reducible exact at1 | with_reducible exact at2 | with_reducible exact at3 | with_reducible exact at4 | with_reducible exact at5))) : bodyPostM F n P fn R x a (W.setCell p u) := k _ h
theorem niPd {W : World} {fn : Func} {R : Ending → World → Prop} {x : Exit} {a : Act} (k : ∀ w, Hp B w0 w L → bodyPostM F n P fn R x a w) (h : Hp B w0 W.drew L := by (repeat (first | with_reducible exact hS | with_reducible apply Hp.drew | with_reducible apply Hp.alloc | with_reducible apply Hp.put | with_reducible apply atS | with_reducible exact at0 | with_reducible exact at1 | with_reducible exact at2 | with_reducible exact at3 | with_reducible exact at4 | with_reducible exact at5))) : bodyPostM F n P fn R x a W.drew := k _ h
theorem niKa {W : World} {o : Obj} {f : FuncId} {R : Ending → World → Prop} {args : Array Value} (k : ∀ w, Hp B w0 w L → CallsIn F n P f args w R) (h : Hp B w0 (W.alloc o) L := by (repeat (first | with_reducible exact hS | with_reducible apply Hp.drew | with_reducible apply Hp.alloc | with_reducible apply Hp.put | with_reducible apply atS | with_reducible exact at0 | with_reducible exact at1 | with_reducible exact at2 | with_reducible exact at3 | with_reducible exact at4 | with_reducible exact at5))) : CallsIn F n P f args (W.alloc o) R := k _ h
theorem niKs {W : World} {p : Addr} {u : Value} {f : FuncId} {R : Ending → World → Prop} {args : Array Value} (k : ∀ w, Hp B w0 w L → CallsIn F n P f args w R) (h : Hp B w0 (W.setCell p u) L := by (repeat (first | with_reducible exact hS | with_reducible apply Hp.drew | with_reducible apply Hp.alloc | with_reducible apply Hp.put | with_reducible apply atS | with_reducible exact at0 | with_reducible exact at1 | with_reducible exact at2 | with_reducible exact at3 | with_reducible exact at4 | with_reducible exact at5))) : CallsIn F n P f args (W.setCell p u) R := k _ h
theorem niKd {W : World} {f : FuncId} {R : Ending → World → Prop} {args : Array Value} (k : ∀ w, Hp B w0 w L → CallsIn F n P f args w R) (h : Hp B w0 W.drew L := by (repeat (first | with_reducible exact hS | with_reducible apply Hp.drew | with_reducible apply Hp.alloc | with_reducible apply Hp.put | with_reducible apply atS | with_reducible exact at0 | with_reducible exact at1 | with_reducible exact at2 | with_reducible exact at3 | with_reducible exact at4 | with_reducible exact at5))) : CallsIn F n P f args W.drew R := k _ h
/-- append of the one element that lies in the block at the head -/
theorem wpListIn_push_hp {w : World} (hF : Open F) {t e : TypeId} {size bytes k c cap S : Nat} {A : Option Addr} {xs news : List Value} (hE : Elem P t e size bytes) {rest : List Oper} {o : Oper} {a : Act} {Q : Exit → Act → World → Prop} (hgd : o.guard = none) (s x : Operand)
    (ho : o.op = .call { callee := .builtin .append, args := #[s, x], argTypes := #[t, t] }) (h : Hp B w0 w (.blk S news e :: .row e size A k cap xs :: L)) (hs : a.eval s = .slice A k cap) (hx : a.eval x = .slice (some ⟨S, 0, none⟩) 1 c) (hl : news.length = size)
    (h1 : ∀ u ∈ news, u.oneCell' = true) (hn : (k + 1) * bytes ≤ 140737488355328) (hm : k + 1 ≤ 140737488355328)
    (hk : ∀ A' cap' w', Hp B w0 w' (.row e size A' (k + 1) cap' (xs ++ news) :: L) → wpListIn F n P ops Q rest (a.put o.dst (.slice A' (k + 1 : Nat) cap')) w') : wpListIn F n P ops Q (o :: rest) a w := by
  refine wpListIn_plain hgd fun K hK => ?_
  refine operIn_of hF (by unfold noDefer; rw [ho]) (K := K) (Q := fun _ _ _ => False) (fun _ _ h => h) (fun _ _ _ h => h.elim) ?_
  obtain ⟨A', cap', w', hr, h2⟩ := run_append_hp (P := P) (c := c) (ty := o.type) hE h.tail ⟨S, 0, none⟩ (m := 1) (news := news) (by simpa using hl) (fun j u hu => World.news_of_block h.head.2 j u (by simpa using hu)) h1 hn hm
  unfold Oper.wp execOp
  simp only [ho, resolve, invoke, builtin, Sem.run_bind, Sem.run_pure, Result.andThen_ok, List.map_toArray, List.map_cons, List.map_nil, hs, hx, hr]
  exact hK _ _ (hk A' cap' w' h2)
/-- what is no cells, from B1 on, as things -/
theorem Hp.others {w : World} (B1 : Nat) (hB : B ≤ B1) (h : Hp B w0 w L) (hL : ∀ x ∈ L, ∀ g, x.block = some g → ∃ o, w.heap[g]? = some o ∧ o.isCells = true) :
    ∃ K : List Item, Hp B w0 w (L ++ K) ∧ ∀ (w' : World) (M : List Item), Hp B w0 w' M → w.heap.size ≤ w'.heap.size → (∀ x ∈ K, x ∈ M) → KeepsFrom B1 w w' := by
  let K : List Item := (List.range w.heap.size).filterMap fun k => if B1 ≤ k then (match w.heap[k]? with | some o => if o.isCells then none else some (.ob k o) | none => none) else none
  have hmem : ∀ x ∈ K, ∃ k o, x = .ob k o ∧ B1 ≤ k ∧ w.heap[k]? = some o ∧ o.isCells = false := fun x hx => by
    obtain ⟨k, _, hk⟩ := List.mem_filterMap.1 hx
    split at hk
    · rename_i hb
      split at hk
      · rename_i o ho
        split at hk
        · cases hk
        · rename_i hc
          exact ⟨k, o, (Option.some.inj hk).symm, hb, ho, by simpa using hc⟩
      · cases hk
    · cases hk
  refine ⟨K, ⟨h.below, h.base, List.pairwise_append.2 ⟨h.apart, ?_, ?_⟩, ?_⟩, ?_⟩
  · refine List.Pairwise.filterMap _ (R := fun a b => a ≠ b) ?_ (List.nodup_range)
    intro a b hab x hx y hy
    right
    have e1 : x.block = some a := by
      split at hx
      · split at hx
        · split at hx
          · cases hx
          · cases hx; rfl
        · cases hx
      · cases hx
    have e2 : y.block = some b := by
      split at hy
      · split at hy
        · split at hy
          · cases hy
          · cases hy; rfl
        · cases hy
      · cases hy
    rw [e1, e2]
    simpa using hab
  · intro x hx y hy
    obtain ⟨k, o, rfl, _, ho, hc⟩ := hmem y hy
    cases hb : x.block with
    | none => exact .inl hb
    | some g =>
      right
      rw [hb]
      intro e
      obtain ⟨o2, ho2, hc2⟩ := hL x hx g hb
      have : g = k := by simpa [Item.block] using e
      subst this
      rw [ho] at ho2
      cases ho2
      rw [hc] at hc2
      cases hc2
  · intro x hx
    rcases List.mem_append.1 hx with hx | hx
    · exact h.own x hx
    · obtain ⟨k, o, rfl, hk, ho, _⟩ := hmem x hx
      exact ⟨Nat.le_trans hB hk, ho⟩
  · intro w' M hM hsz hK
    refine ⟨hsz, fun k o hk ho hc => ?_⟩
    have hx : Item.ob k o ∈ K := by
      refine List.mem_filterMap.2 ⟨k, by simpa using (Array.getElem?_eq_some_iff.1 ho).1, ?_⟩
      simp only [if_pos hk, ho, hc]
      rfl
    exact (hM.own _ (hK _ hx)).2
end
end Go.Proofs.YtlaldfkeaalnhaaGreatDoor

/- A walk with things that are no cells (loops, what waits): what is made of cells lies as it lay. For any program. -/
namespace Go.Proofs.YtlaldfkeaalnhaaGreatDoor
set_option linter.all false
open Go.RowKit
/-- a thing that is made of cells -/
def CellI : Item → Prop
  | .blk .. => True
  | .row .. => True
  | _ => False
theorem Hp.cellsOf {B : Nat} {w0 w : World} {L : List Item} (h : Hp B w0 w L) (hL : ∀ x ∈ L, CellI x) : ∀ x ∈ L, ∀ g, x.block = some g → ∃ o, w.heap[g]? = some o ∧ o.isCells = true := fun x hx g hg => by
  have ho := h.own x hx
  have hc := hL x hx
  cases x with
  | blk g' cs t =>
    obtain rfl : g' = g := by simpa [Item.block] using hg
    exact ⟨_, ho.2, rfl⟩
  | row e size A n cap xs =>
    rcases (show w.ownsRow B e size (.slice A n cap) n xs from ho).2 with ⟨hv, _⟩ | ⟨g', cp, cur, hv, _, hh, _⟩
    · obtain ⟨rfl, _⟩ : A = none ∧ _ := by simpa using hv
      simp [Item.block] at hg
    · obtain ⟨rfl, _⟩ : A = some ⟨g', 0, none⟩ ∧ _ := by simpa using hv
      obtain rfl : g' = g := by simpa [Item.block] using hg
      exact ⟨_, hh, rfl⟩
  | ob g' o => exact hc.elim
  | mp m o => exact hc.elim
theorem Hp.turnOther {B : Nat} {w0 w w' : World} {L : List Item} {row : Option Nat} (h : Hp B w0 w L) (hL : ∀ x ∈ L, CellI x) (hg : w.grownBy w' row) (hrow : ∀ r, row = some r → B ≤ r ∧ ∃ o : Obj, w.heap[r]? = some o ∧ o.isCells = false) : Hp B w0 w' L :=
  ⟨h.below.grown hg h.base (fun k hk => (hrow k hk).1), Nat.le_trans h.base hg.size, h.apart, fun x hx => (h.own x hx).kept hg (by
    cases hb : x.block with
    | none => exact .inl rfl
    | some g =>
      right
      intro e
      obtain ⟨_, o, ho, hc⟩ := hrow g e.symm
      obtain ⟨o2, ho2, hc2⟩ := h.cellsOf hL x hx g hb
      rw [ho] at ho2
      cases ho2
      rw [hc] at hc2
      cases hc2)⟩
theorem Hp.obj {B : Nat} {w0 w : World} {L : List Item} {D : Nat} {o : Obj} (h : Hp B w0 w L) (hL : ∀ x ∈ L, CellI x) (hB : B ≤ D) (hD : w.heap[D]? = some o) (ho : o.isCells = false) : Hp B w0 w (.ob D o :: L) :=
  h.cons ⟨hB, hD⟩ fun y hy => by
    right
    intro e
    obtain ⟨o2, h2, hc⟩ := h.cellsOf hL y hy D e.symm
    rw [hD] at h2
    cases h2
    rw [ho] at hc
    cases hc
theorem grownBy_row (w : World) (g : Nat) (cs : Array Value) : w.grownBy (w.setRow g cs) (some g) :=
  ⟨rfl, rfl, rfl, by simp, fun k _ hk => setRow_other w g k cs (by simpa using hk)⟩
theorem Hp.putAll {B : Nat} {w0 w : World} {L : List Item} {g : Nat} {cs : List Value} {t : TypeId} {i : Nat} (us : List Value) (h : Hp B w0 w L) (hi : L[i]? = some (.blk g cs t)) : Hp B w0 (w.setRow g us.toArray) (L.set i (.blk g us t)) :=
  ((h.front i hi).turn (y := .blk g us t) (grownBy_row w g us.toArray) (.inr rfl) ⟨(h.front i hi).head.1, setRow_heap w g cs.toArray us.toArray t (0, 0) (h.front i hi).head.2⟩ (.inl rfl)).perm (set_perm L i _ _ hi)
/-- a store of all cells of a block -/
theorem ZStep.storeRow {P : Program} {ops : Array Oper} {F : World → Prop} {zc : Bool} {K : Act → (World → Prop) → Prop} {o : Oper} {a : Act} {B : Nat} {w0 : World} {L : List Item} {i g : Nat} {ty t : TypeId} {x y : Operand} {cs us : List Value}
    (hz : zc = true ∨ ∀ w, Hp B w0 w (L.set i (.blk g us t)) → F w) (hw : Region.wanted o (yielded ops a.tmps) = true) (ho : o.op = .store ty x y) (hx : a.eval x = .pointer (some ⟨g, 0, none⟩)) (hy : a.eval y = .agg us.toArray) (hi : L[i]? = some (.blk g cs t))
    (hsz : (P.info? ty).map (·.size) = some us.toArray.size) (hl : cs.toArray.size = us.toArray.size) (h1 : us.toArray.all (·.oneCell') = true) (h : K (a.put o.dst undef) (fun W => Hp B w0 W (L.set i (.blk g us t)))) : ZStep P ops F zc K o a (fun W => Hp B w0 W L) := by
  refine .inl ⟨hw, fun w hS => ?_⟩
  refine wp_store_row ty x y ho g us.toArray hx hy t cs.toArray (hS.blkAt i hi) hsz hl h1 ?_
  exact ⟨_, hS.putAll us hi, fun _ _ h hx => h.step hx, hz, h⟩
end Go.Proofs.YtlaldfkeaalnhaaGreatDoor

/- schema.Name: what it answers. -/
namespace Go.Proofs.YtlaldfkeaalnhaaGreatDoor
set_option linter.all false
set_option linter.unusedSimpArgs false
set_option linter.unusedVariables false
open Go.RowKit
def lettersL : List UInt8 := [97, 98, 99, 100, 101, 102, 103, 104, 105, 106, 107, 108, 109, 110, 111, 112, 113, 114, 115, 116, 117, 118, 119, 120, 121, 122]
def cutL : List UInt8 := lettersL ++ [48, 49, 50, 51, 52, 53, 54, 55, 56, 57, 95]
/-- what schema.Name answers -/
def nameB (s : ByteArray) : Bool := decide (0 < s.size) && decide (s.size ≤ 16) && decide ((0 : Int) ≤ Lib.indexByte lettersL (s.data.toList.headD 0)) && (Lib.trimS s.data.toList cutL).isEmpty
theorem trim_any (s : ByteArray) (hs : s.size ≤ 1000000) (w : World) : Calls Tryz.prog 106 #[.string s, .string ⟨cutL.toArray⟩] w fun e w' => e = .returned (.string ⟨(Lib.trimS s.data.toList cutL).toArray⟩) ∧ Ext w w' :=
  Any.strings_Trim_laid Tryz.lays160 (by kernel_rfl) s ⟨cutL.toArray⟩ w (by omega) (by decide) (Go.Proofs.ascii_of_all (by decide))
set_option maxRecDepth 100000 in
set_option maxHeartbeats 8000000 in
theorem name_any (s : ByteArray) (w : World) : Calls Tryz.prog 73 #[.string s] w fun e w' => e = .returned (.bool (nameB s)) ∧ Ext w w' := by
  have hS := Hp.init w
  have hR := Reads.nil w
  by_cases h0 : s.size = 0
  · have e : nameB s = false := by unfold nameB; simp [h0]
    have hs : s = ⟨#[]⟩ := by apply ByteArray.ext; apply Array.eq_empty_of_size_eq_zero; exact h0
    rw [e]
    subst hs
    clear e h0
    go_enter Tryz.func73, Tryz.ntmps73
    go_wp2_with (first | (refine hab ?_; (try clear hF); clear hS; intro wk hS; (try simp only [List.set_cons_zero, List.set_cons_succ, heap_size, heap_set_size] at hS); ((try clear hF); refine hfI ?_; intro hF)) | fail)
    go_ret
    exact ⟨rfl, hS.ext⟩
  by_cases h16 : 16 < s.size
  · have e : nameB s = false := by unfold nameB; simp; omega
    have hne : s.toList.isEmpty = false := by
      rw [Lib.toList_data]
      cases h : s.data.toList with
      | nil => have := Lib.size_eq s; rw [h, List.length_nil] at this; omega
      | cons _ _ => rfl
    rw [e]
    clear e
    go_enter Tryz.func73, Tryz.ntmps73
    go_wp2_with (first | (refine hab ?_; (try clear hF); clear hS; intro wk hS; (try simp only [List.set_cons_zero, List.set_cons_succ, heap_size, heap_set_size] at hS); ((try clear hF); refine hfI ?_; intro hF)) | fail)
    go_ret
    exact ⟨rfl, hS.ext⟩
  have hne : s.toList.isEmpty = false := by
    rw [Lib.toList_data]
    cases h : s.data.toList with
    | nil => have := Lib.size_eq s; rw [h, List.length_nil] at this; omega
    | cons _ _ => rfl
  have hb0 : (0 : Int) < (s.size : Int) := by omega
  have hb1 : 0 < s.size := by omega
  have hd : s.data.toList.headD 0 = s[0] := by
    have e : s.data.toList[0]? = some s[0] := List.getElem?_eq_getElem (by exact hb1)
    cases h : s.data.toList with
    | nil => rw [h] at e; cases e
    | cons a l => rw [h] at e; exact Option.some.inj e
  have HI := Lib.hid (fun W => show Calls Tryz.prog 105 #[.string ⟨#[97, 98, 99, 100, 101, 102, 103, 104, 105, 106, 107, 108, 109, 110, 111, 112, 113, 114, 115, 116, 117, 118, 119, 120, 121, 122]⟩, .int .u8 (s[0].toNat : Int)] W fun e w' => e = .returned (.int .i64 (Lib.indexByte lettersL s[0])) ∧ Ext W w' from by
    refine (Tryz.strings_IndexByte ⟨lettersL.toArray⟩ (s[0].toNat : Int) W).mono fun e w' ⟨h1, h2⟩ => ⟨?_, by rw [h2]; exact Ext.refl _⟩
    rw [h1]
    congr 3
    simp)
  have HT := Lib.hid (fun W => show Calls Tryz.prog 106 #[.string s, .string ⟨#[97, 98, 99, 100, 101, 102, 103, 104, 105, 106, 107, 108, 109, 110, 111, 112, 113, 114, 115, 116, 117, 118, 119, 120, 121, 122, 48, 49, 50, 51, 52, 53, 54, 55, 56, 57, 95]⟩] W fun e w' => e = .returned (.string ⟨(Lib.trimS s.data.toList cutL).toArray⟩) ∧ Ext W w' from trim_any s (by omega) W)
  have e : nameB s = (decide ((0 : Int) ≤ Lib.indexByte lettersL s[0]) && (Lib.trimS s.data.toList cutL).isEmpty) := by
    unfold nameB
    rw [decide_eq_true hb1, decide_eq_true (by omega : s.size ≤ 16), hd]
    simp
  rw [e]
  obtain ⟨ix, hix⟩ : ∃ ix, ix = Lib.indexByte lettersL s[0] := ⟨_, rfl⟩
  obtain ⟨ts, hts⟩ : ∃ ts : ByteArray, ts = ⟨(Lib.trimS s.data.toList cutL).toArray⟩ := ⟨_, rfl⟩
  rw [← hix] at HI ⊢
  rw [← hts] at HT
  have he2 : (Lib.trimS s.data.toList cutL).isEmpty = ts.toList.isEmpty := by rw [hts, Lib.toList_data]
  rw [he2]
  clear e hix hts he2 hd
  by_cases hx : (0 : Int) ≤ ix
  · have hxd : decide ((0 : Int) ≤ ix) = true := by simp [hx]
    rw [hxd, Bool.true_and]
    clear hxd
    cases hte : ts.toList.isEmpty with
    | true =>
      go_enter Tryz.func73, Tryz.ntmps73
      go_wp2_with (first | (refine hab ?_; (try clear hF); clear hS; intro wk hS; (try simp only [List.set_cons_zero, List.set_cons_succ, heap_size, heap_set_size] at hS); ((try clear hF); refine hfI ?_; intro hF)) | (go_at_call 105; (with_reducible refine (HI.out _).mono ?_); rintro e wk ⟨rfl, hX⟩; replace hS := hS.step hX; clear hX; ((try clear hF); refine hfI ?_; intro hF)) | (go_at_call 106; (with_reducible refine (HT.out _).mono ?_); rintro e wk ⟨rfl, hX⟩; replace hS := hS.step hX; clear hX; ((try clear hF); refine hfI ?_; intro hF)))
      go_ret
      exact ⟨rfl, hS.ext⟩
    | false =>
      go_enter Tryz.func73, Tryz.ntmps73
      go_wp2_with (first | (refine hab ?_; (try clear hF); clear hS; intro wk hS; (try simp only [List.set_cons_zero, List.set_cons_succ, heap_size, heap_set_size] at hS); ((try clear hF); refine hfI ?_; intro hF)) | (go_at_call 105; (with_reducible refine (HI.out _).mono ?_); rintro e wk ⟨rfl, hX⟩; replace hS := hS.step hX; clear hX; ((try clear hF); refine hfI ?_; intro hF)) | (go_at_call 106; (with_reducible refine (HT.out _).mono ?_); rintro e wk ⟨rfl, hX⟩; replace hS := hS.step hX; clear hX; ((try clear hF); refine hfI ?_; intro hF)))
      go_ret
      exact ⟨rfl, hS.ext⟩
  · have hxd : decide ((0 : Int) ≤ ix) = false := by simp; omega
    rw [hxd, Bool.false_and]
    clear hxd
    go_enter Tryz.func73, Tryz.ntmps73
    go_wp2_with (first | (refine hab ?_; (try clear hF); clear hS; intro wk hS; (try simp only [List.set_cons_zero, List.set_cons_succ, heap_size, heap_set_size] at hS); ((try clear hF); refine hfI ?_; intro hF)) | (go_at_call 105; (with_reducible refine (HI.out _).mono ?_); rintro e wk ⟨rfl, hX⟩; replace hS := hS.step hX; clear hX; ((try clear hF); refine hfI ?_; intro hF)) | (go_at_call 106; (with_reducible refine (HT.out _).mono ?_); rintro e wk ⟨rfl, hX⟩; replace hS := hS.step hX; clear hX; ((try clear hF); refine hfI ?_; intro hF)))
    go_ret
    exact ⟨rfl, hS.ext⟩
end Go.Proofs.YtlaldfkeaalnhaaGreatDoor

/- slices of strings: what their cells hold. -/
namespace Go.Proofs.YtlaldfkeaalnhaaGreatDoor
set_option linter.all false
set_option linter.unusedSimpArgs false
set_option linter.unusedVariables false
open Go.RowKit
abbrev strsV (l : List ByteArray) : List Value := l.map Value.string
/-- the slice at A reads as l -/
def RS (w : World) (A : Option Addr) (l : List ByteArray) : Prop := ∀ (k : Nat) (s : ByteArray), l[k]? = some s → ∃ b o : Nat, A = some ⟨b, o, none⟩ ∧ w.cell? ⟨b, o + k, none⟩ = some (.string s)
theorem RS.ext {w w' : World} {A : Option Addr} {l : List ByteArray} (h : RS w A l) (hx : Ext w w') : RS w' A l := fun k s hk => by
  obtain ⟨b, o, e, c⟩ := h k s hk
  exact ⟨b, o, e, hx.keeps c⟩
theorem Hp.rs {B : Nat} {w0 w : World} {L : List Item} {A : Option Addr} {n cap : Nat} {l : List ByteArray} (h : Hp B w0 w L) (i : Nat) (hi : L[i]? = some (.row 9 1 A n cap (strsV l))) : RS w A l := fun k s hk => by
  obtain ⟨g, rfl, c, _⟩ := h.rowCell i hi (j := k) (u := .string s) (by rw [List.getElem?_map, hk]; rfl)
  exact ⟨g, 0, rfl, by rw [Nat.zero_add]; exact c⟩
end Go.Proofs.YtlaldfkeaalnhaaGreatDoor

/- Slices of values: what their cells hold. -/
namespace Go.Proofs.YtlaldfkeaalnhaaGreatDoor
set_option linter.all false
set_option linter.unusedSimpArgs false
set_option linter.unusedVariables false
open Go.RowKit

/-- the slice at A reads as the values l -/
def RV (w : World) (A : Option Addr) (l : List GV) : Prop :=
  ∀ (i : Nat) (x : GV), l[i]? = some x → ∃ b o : Nat, A = some ⟨b, o, none⟩ ∧ w.cell? ⟨b, o + i * 3, none⟩ = some (.int .i64 x.kind) ∧ w.cell? ⟨b, o + i * 3 + 1, none⟩ = some (.int .i64 x.num) ∧ w.cell? ⟨b, o + i * 3 + 2, none⟩ = some (.string x.text)
theorem RV.ext {w w' : World} {A : Option Addr} {l : List GV} (h : RV w A l) (hx : Ext w w') : RV w' A l := fun i x hi => by
  obtain ⟨b, o, hA, h0, h1, h2⟩ := h i x hi
  exact ⟨b, o, hA, hx.keeps h0, hx.keeps h1, hx.keeps h2⟩

/-- the cells of values -/
def cellsV : List GV → List Value
  | [] => []
  | x :: l => .int .i64 x.kind :: .int .i64 x.num :: .string x.text :: cellsV l
theorem cellsV_len : ∀ l : List GV, (cellsV l).length = l.length * 3
  | [] => rfl
  | x :: l => by simp [cellsV, cellsV_len l]; omega
theorem cellsV_append : ∀ l m : List GV, cellsV (l ++ m) = cellsV l ++ cellsV m
  | [], m => rfl
  | x :: l, m => by simp [cellsV, cellsV_append l m]
theorem cellsV_at : ∀ (l : List GV) (i : Nat) (x : GV), l[i]? = some x → (cellsV l)[i * 3]? = some (.int .i64 x.kind) ∧ (cellsV l)[i * 3 + 1]? = some (.int .i64 x.num) ∧ (cellsV l)[i * 3 + 2]? = some (.string x.text)
  | [], i, x, h => by simp at h
  | y :: l, 0, x, h => by simp at h; subst h; simp [cellsV]
  | y :: l, i + 1, x, h => by
    have := cellsV_at l i x (by simpa using h)
    rw [show (i + 1) * 3 = i * 3 + 3 by omega]
    simpa [cellsV] using this
theorem RV.block {w : World} {l : List GV} {g : Nat} {cs : Array Value} {t : TypeId} {fr : Nat × Nat} (h : w.heap[g]? = some (.cells cs t fr)) (hcs : cs = (cellsV l).toArray) : RV w (some ⟨g, 0, none⟩) l := fun i x hi => by
  subst hcs
  obtain ⟨h0, h1, h2⟩ := cellsV_at l i x hi
  refine ⟨g, 0, rfl, ?_, ?_, ?_⟩ <;> simp [World.cell?, h, *]
theorem RV.own {w : World} {B : Nat} {e : TypeId} {g cap n : Nat} {l : List GV} (h : w.ownsRow B e 3 (.slice (some ⟨g, 0, none⟩) n cap) n (cellsV l)) : RV w (some ⟨g, 0, none⟩) l := fun i x hi => by
  obtain ⟨h0, h1, h2⟩ := cellsV_at l i x hi
  have hn : l.length = n := by have := h.1; rw [cellsV_len] at this; omega
  have hi' : i < n := by rw [← hn]; exact (List.getElem?_eq_some_iff.1 hi).1
  refine ⟨g, 0, rfl, ?_, ?_, ?_⟩
  · rw [Nat.zero_add, h.cellAt _ (by omega), h0]
  · rw [Nat.zero_add, h.cellAt _ (by omega), h1]
  · rw [Nat.zero_add, h.cellAt _ (by omega), h2]

end Go.Proofs.YtlaldfkeaalnhaaGreatDoor

/- Bytes that a call builds; numbers written seven bits a byte: encode.number, signed, one. -/
namespace Go.Proofs.YtlaldfkeaalnhaaGreatDoor
set_option linter.all false
set_option linter.unusedSimpArgs false
set_option linter.unusedVariables false
open Go.RowKit
open Go.Lib (uvarint zigzag)
def B8 (c : UInt8) : Value := .int .u8 (c.toNat : Int)
theorem Tryz.elem_bytes : Elem Tryz.prog 41 5 1 1 := by
  obtain ⟨i0, hi0, hz0, hz1, hz2⟩ := info_parts (show (Tryz.prog.info? 5).map (fun i => (i.zero, i.size, i.bytes)) = some (some (.int .u8 0), 1, 1) by kernel_rfl)
  exact ⟨Tryz.underlying41, ⟨i0, _, hi0, hz0, hz1, hz2, rfl⟩, by omega⟩
theorem Tryz.zero_byte : (Tryz.prog.info? 5).bind (·.zero) = some (.int .u8 0) := by kernel_rfl
/-- a slice of bytes that is built -/
abbrev bRow (A : Option Addr) (cap : Nat) (l : List UInt8) : Item := .row 5 1 A l.length cap (l.map B8)
/-- the slice of bytes at the head has become l -/
def BRes (B : Nat) (w0 : World) (L : List Item) (l : List UInt8) (e : Ending) (w' : World) : Prop :=
  ∃ A cap l', e = .returned (.slice A l'.length cap) ∧ Hid (l' = l) ∧ Hp B w0 w' (bRow A cap l' :: L)
theorem b8_of (n : Nat) (h : n < 256) : Value.int .u8 (n : Int) = B8 (UInt8.ofNat n) := by
  unfold B8
  congr 1
  rw [UInt8.toNat_ofNat']
  omega
theorem bRow_push {B : Nat} {w0 w : World} {L : List Item} {A : Option Addr} {cap : Nat} {l : List UInt8} {v : Value} {c : UInt8} (hv : v = B8 c) (h : Hp B w0 w (.row 5 1 A (l.length + 1) cap (l.map B8 ++ [v]) :: L)) : Hp B w0 w (bRow A cap (l ++ [c]) :: L) := by
  subst hv
  unfold bRow
  simpa using h
theorem and127 (m : Nat) (h : m < 18446744073709551616) : bits .and .u64 (m : Int) 127 = (m : Int) % 128 := by
  have h := bits_mask .u64 64 (by decide) (fun n h₀ h₁ => by rw [IntKind.wrap_u64]; omega) 7 (by decide) (m : Int) (by omega) (by omega)
  have e : (2 : Int) ^ 7 - 1 = 127 := by decide
  rw [e] at h
  exact h
theorem or128 (m : Nat) : bits .or .u8 ((m : Int) % 128) 128 = (m : Int) % 128 + 128 := by
  rw [Lib.u8_or128_any _ (by omega) (by omega)]
  omega
set_option maxRecDepth 100000 in
set_option maxHeartbeats 8000000 in
theorem number_any {B : Nat} {w0 w : World} {L : List Item} (A : Option Addr) (cap : Nat) (l : List UInt8) (u : Nat) (hu : u < 18446744073709551616) (hl : l.length ≤ 1000000000000) (hS : Hp B w0 w (bRow A cap l :: L)) :
    Calls Tryz.prog 90 #[.slice A l.length cap, .int .u64 u] w (BRes B w0 L (l ++ uvarint u)) := by
  obtain ⟨n, hn⟩ : ∃ n, n = l.length := ⟨_, rfl⟩
  rw [← hn]
  have Hn := Lib.hid hn
  rw [← hn] at hl
  clear hn
  unfold bRow at hS
  rw [← Hn.out] at hS
  have hlen := Lib.uvarint_length64 hu
  have HL := Lib.hid hlen
  clear hlen
  go_enter Tryz.func90, Tryz.ntmps90
  go_wp2_with fail
  go_loopw [0, 1] (fun b x wr => ∃ (A : Option Addr) (cap n : Nat) (l' : List UInt8) (m : Nat), b = .slice A n cap ∧ x = .int .u64 m ∧ m < 18446744073709551616 ∧ Hid (n = l'.length) ∧ Hid (l' ++ uvarint m = l ++ uvarint u) ∧ Hp B w0 wr (.row 5 1 A n cap (l'.map B8) :: L)) (fun _ x _ => (intOf x).toNat)
  case atStart => exact ⟨A, cap, n, l, u, rfl, rfl, hu, Hn, Lib.hid rfl, hS⟩
  case round =>
    clear hS
    obtain ⟨A, cap, n', l', m, rfl, rfl, hm, Hn', Hl, hS⟩ := hrel
    have hb : n' ≤ n + 10 := by
      have h1 := congrArg List.length Hl.out
      simp only [List.length_append] at h1
      have := Lib.uvarint_pos m
      have := HL.out
      have := Hn.out
      have := Hn'.out
      omega
    by_cases hbig : m < 128
    · have hlt : (m : Int) < 128 := by omega
      have hw : IntKind.u8.wrap (m : Int) = m := by simp [IntKind.wrap, IntKind.bits, IntKind.signed]; omega
      go_wp2_with (first | (refine hab ?_; (try clear hF); clear hS; intro wk hS; (try simp only [List.set_cons_zero, List.set_cons_succ, heap_size, heap_set_size] at hS); ((try clear hF); refine hfI ?_; intro hF)) | (at_builtin; refine wpList_push_hp Tryz.elem_bytes rfl (.tmp 16) (.tmp 19) rfl (hS.second 0 rfl) rfl rfl rfl (by simp [Value.oneCell']) (by omega) (by omega) ?_; clear hS; intro Ak capk wk hS; (try simp only [List.eraseIdx_cons_zero, List.eraseIdx_cons_succ, List.set_cons_zero, List.set_cons_succ] at hS); ((try clear hF); refine hfI ?_; intro hF)))
      go_ret
      refine ⟨Ak, capk, l' ++ uvarint m, ?_, Hl, ?_⟩
      · rw [Lib.uvarint_small hbig, List.length_append]; have := Hn'.out; subst this; rfl
      · have := Hn'.out; subst this
        rw [Lib.uvarint_small hbig]
        exact bRow_push (b8_of m (by omega)) hS
    · have hge : (128 : Int) ≤ m := by omega
      have hw := and127 m hm
      have hw2 := or128 m
      have HB := Lib.hid hbig
      have hv : Value.int .u8 ((m : Int) % 128 + 128) = B8 (UInt8.ofNat (m % 128 + 128)) := by rw [← b8_of _ (by omega)]; simp
      have HV' := Lib.hid hv
      clear hv
      clear hbig
      go_wp2_with (first | (refine hab ?_; (try clear hF); clear hS; intro wk hS; (try simp only [List.set_cons_zero, List.set_cons_succ, heap_size, heap_set_size] at hS); ((try clear hF); refine hfI ?_; intro hF)) | (at_builtin; refine wpList_push_hp Tryz.elem_bytes rfl (.tmp 9) (.tmp 14) rfl (hS.second 0 rfl) rfl rfl rfl (by simp [Value.oneCell']) (by omega) (by omega) ?_; clear hS; intro Ak capk wk hS; (try simp only [List.eraseIdx_cons_zero, List.eraseIdx_cons_succ, List.set_cons_zero, List.set_cons_succ] at hS); ((try clear hF); refine hfI ?_; intro hF)))
      go_roundw
      case rel =>
        refine ⟨Ak, capk, n' + 1, l' ++ [UInt8.ofNat (m % 128 + 128)], m / 128, rfl, by go_num, by omega, Lib.hid (by rw [Hn'.out]; simp), Lib.hid ?_, ?_⟩
        · rw [← Hl.out, Lib.uvarint_big (x := m) (by have := HB.out; omega)]; simp
        · have := Hn'.out; subst this
          have := bRow_push HV'.out hS; unfold bRow at this; simpa using this
      case measure => simp [intOf]; omega
theorem number_int {B : Nat} {w0 w : World} {L : List Item} (A : Option Addr) (cap : Nat) (l : List UInt8) (u : Int) (h0 : 0 ≤ u) (hu : u < 18446744073709551616) (hl : l.length ≤ 1000000000000) (hS : Hp B w0 w (bRow A cap l :: L)) :
    Calls Tryz.prog 90 #[.slice A l.length cap, .int .u64 u] w (BRes B w0 L (l ++ uvarint u.toNat)) := by
  obtain ⟨n, rfl⟩ := Int.eq_ofNat_of_zero_le h0
  exact number_any A cap l n (by omega) hl hS
theorem xor_comm64 (a b : Int) : bits .xor .u64 a b = bits .xor .u64 b a := by
  show IntKind.u64.wrap ((BitVec.ofInt 64 a ^^^ BitVec.ofInt 64 b).toNat : Int) = IntKind.u64.wrap ((BitVec.ofInt 64 b ^^^ BitVec.ofInt 64 a).toNat : Int)
  rw [BitVec.xor_comm]
theorem zig_pos (x : Int) (h0 : 0 ≤ x) (h1 : x ≤ 9223372036854775807) : bits .xor .u64 (x * 2) (x / 9223372036854775808) = (zigzag x : Int) := by
  have e : x / 9223372036854775808 = ((0 : Nat) : Int) := by omega
  have e2 : x * 2 = (((x * 2).toNat : Nat) : Int) := by omega
  rw [e, e2, bits_xor_u64_nat _ _ (by omega) (by decide), Nat.xor_zero]
  unfold zigzag
  rw [if_pos h0]
  omega
theorem zig_neg (x : Int) (h0 : x < 0) (h1 : -9223372036854775808 ≤ x) : bits .xor .u64 (IntKind.u64.wrap (IntKind.u64.wrap x * 2)) (IntKind.u64.wrap (x / 9223372036854775808)) = (zigzag x : Int) := by
  have e : x / 9223372036854775808 = -1 := by omega
  have e2 : IntKind.u64.wrap (-1) = IntKind.u64.max := by decide
  rw [e, e2, xor_comm64, Lib.zigzag_neg h1 h0]
set_option maxRecDepth 100000 in
set_option maxHeartbeats 8000000 in
theorem signed_any {B : Nat} {w0 w : World} {L : List Item} (A : Option Addr) (cap : Nat) (l : List UInt8) (x : Int) (hx : i64 x) (hl : l.length ≤ 1000000000000) (hS : Hp B w0 w (bRow A cap l :: L)) :
    Calls Tryz.prog 122 #[.slice A l.length cap, .int .i64 x] w (BRes B w0 L (l ++ uvarint (zigzag x))) := by
  obtain ⟨hx0, hx1⟩ := hx
  have hN := number_any A cap l (zigzag x) (Lib.zigzag_lt hx0 hx1) hl hS
  clear hS
  by_cases h0 : 0 ≤ x
  · rw [← zig_pos x h0 hx1] at hN
    have HN := Lib.hid hN
    clear hN
    go_enter Tryz.func122, Tryz.ntmps122
    go_wp2_with (go_at_call 90; (with_reducible refine HN.out.mono ?_); rintro e wk ⟨Ak, capk, l', rfl, Hl, hS⟩)
    go_ret
    exact ⟨Ak, capk, l', rfl, Hl, hS⟩
  · rw [← zig_neg x (by omega) hx0] at hN
    have HN := Lib.hid hN
    clear hN
    go_enter Tryz.func122, Tryz.ntmps122
    go_wp2_with (go_at_call 90; (with_reducible refine HN.out.mono ?_); rintro e wk ⟨Ak, capk, l', rfl, Hl, hS⟩)
    go_ret
    exact ⟨Ak, capk, l', rfl, Hl, hS⟩
/-- a value as it is written -/
def encV (v : GV) : List UInt8 := if v.kind = 1 then uvarint (zigzag v.num) else uvarint v.text.size ++ v.text.data.toList
theorem strCells_b8 (s : ByteArray) : Lib.strCells s = s.data.toList.map B8 := rfl
set_option maxRecDepth 100000 in
set_option maxHeartbeats 8000000 in
theorem enc_one_any {B : Nat} {w0 w : World} {L : List Item} (A : Option Addr) (cap : Nat) (l : List UInt8) (v : GV) (hx : i64 v.num) (hs : v.text.size ≤ 1000000000000) (hl : l.length ≤ 1000000000000) (hS : Hp B w0 w (bRow A cap l :: L)) :
    Calls Tryz.prog 119 #[.slice A l.length cap, .agg #[.int .i64 v.kind, .int .i64 v.num, .string v.text]] w (BRes B w0 L (l ++ encV v)) := by
  have hN := fun (w : World) (L : List Item) hS => signed_any (w0 := w0) (w := w) (B := B) (L := L) A cap l v.num hx hl hS
  have hM := fun (w : World) (L : List Item) hS => number_any (w0 := w0) (w := w) (B := B) (L := L) A cap l v.text.size (by omega) hl hS
  have HN := Lib.hid hN
  have HM := Lib.hid hM
  clear hN hM
  obtain ⟨hx0, hx1⟩ := hx
  by_cases h1 : v.kind = 1
  · have e : encV v = uvarint (zigzag v.num) := by unfold encV; rw [if_pos h1]
    rw [e]
    have hb : (v.kind == 1) = true := by simp [h1]
    clear h1 e
    go_enter Tryz.func119, Tryz.ntmps119
    go_wp2_with (first | (refine hab ?_; (try clear hF); clear hS; intro wk hS; (try simp only [List.set_cons_zero, List.set_cons_succ, heap_size, heap_set_size] at hS); ((try clear hF); refine hfI ?_; intro hF)) | (go_at_call 122; (with_reducible refine Calls.mono (HN.out _ _ (hS.front 1 rfl)) ?_); clear hS; rintro e wk ⟨Ak, capk, l', rfl, Hl, hS⟩; (try simp only [List.eraseIdx_cons_zero, List.eraseIdx_cons_succ, List.set_cons_zero, List.set_cons_succ] at hS); ((try clear hF); refine hfI ?_; intro hF)))
    go_ret
    exact ⟨Ak, capk, l', rfl, Hl, hS.sub (by simp)⟩
  · have hb : (v.kind == 1) = false := by simp [h1]
    have e : encV v = uvarint v.text.size ++ v.text.data.toList := by unfold encV; rw [if_neg h1]
    rw [e]
    clear h1 e
    have hwz : IntKind.u64.wrap (v.text.size : Int) = v.text.size := by rw [IntKind.wrap_u64]; omega
    go_enter Tryz.func119, Tryz.ntmps119
    go_wp2_with (first | (refine hab ?_; (try clear hF); clear hS; intro wk hS; (try simp only [List.set_cons_zero, List.set_cons_succ, heap_size, heap_set_size] at hS); ((try clear hF); refine hfI ?_; intro hF)) | fail)
    ((with_reducible refine wp_region_chain_hp [.q, .q, .q, .q, .q, .t, .q, .q, .t, .t] [.blk w.heap.size [.int .i64 v.kind, .int .i64 v.num, .string v.text] 29] (by kernel_rfl) rfl (by kernel_rfl) hS (fun w h => h.sub (by simp)) ?_); clear hS; (repeat ((with_reducible refine Walk.here ?_); (first | ((with_reducible apply Walk.skipQ); (first | rfl | exact wanted_false rfl rfl rfl (by assumption)); (try simp only [Mark.isQ, if_true, Bool.false_eq_true, if_false, Act.put, List.setIfInBounds_toArray, List.set_cons_zero, List.set_cons_succ])) | ((with_reducible apply Walk.val); (first | rfl | exact wanted_true rfl rfl rfl (by assumption)); (rintro w hS; ((try clear hF); refine hfI ?_; intro hF); go_simp; first | with_reducible rfl | (rw [if_neg (by first | omega | (simp only [ByteArray.size_append]; omega) | (simp [ByteArray.size_append]; omega))]; try with_reducible rfl)); (try simp only [Mark.isQ, if_true, Bool.false_eq_true, if_false, Act.put, List.setIfInBounds_toArray, List.set_cons_zero, List.set_cons_succ])) | ((with_reducible apply Walk.tail); (try simp only [Mark.isQ, if_true, Bool.false_eq_true, if_false, Act.put, List.setIfInBounds_toArray, List.set_cons_zero, List.set_cons_succ])) | ((with_reducible apply Walk.guardT); rfl; rfl; rfl; (all_goals intro hg)) | ((with_reducible apply Walk.guardF); rfl; rfl; rfl; (all_goals intro hg))))); refine Walk.done ?_; simp only [chainOf, Mark.isT, if_true, Bool.false_eq_true, if_false])
    (refine Chain.call (by (first | rfl | exact wanted_true rfl rfl rfl (by assumption))) (by rintro w hS; ((try clear hF); refine hfI ?_; intro hF); go_simp; exact ⟨rfl, rfl⟩) ?_; (intro w hS); (with_reducible refine Calls.mono (HM.out _ _ (hS.front 1 rfl)) ?_); clear hS; rintro e wk ⟨Ak, capk, l', rfl, Hl, hS⟩; (try simp only [List.eraseIdx_cons_zero, List.eraseIdx_cons_succ, List.set_cons_zero, List.set_cons_succ] at hS); refine ⟨_, _, rfl, hS, (fun w h => h.sub (by simp)), ?_⟩; (clear hS); try simp only [Act.put, List.setIfInBounds_toArray, List.set_cons_zero, List.set_cons_succ])
    have hl' : l'.length ≤ 100000000000000 := by
      have := congrArg List.length Hl.out
      have := Lib.uvarint_length64 (x := v.text.size) (by omega)
      simp at *; omega
    (refine Chain.appendStr Tryz.elem_bytes Tryz.zero_byte Tryz.underlying9 (by (first | rfl | exact wanted_true rfl rfl rfl (by assumption))) (.tmp 17) (.tmp 19) rfl 0 rfl rfl rfl _ rfl (by omega) (fun w h => h.sub (by simp)) ?_; intro A3 cap3; (try simp only [List.eraseIdx_cons_zero, List.eraseIdx_cons_succ, List.set_cons_zero, List.set_cons_succ] at hS); try simp only [Act.put, List.setIfInBounds_toArray, List.set_cons_zero, List.set_cons_succ])
    (refine Chain.val (by (first | rfl | exact wanted_true rfl rfl rfl (by assumption))) (fun w h => h.sub (by simp)) (by rintro w hS; ((try clear hF); refine hfI ?_; intro hF); go_simp; with_reducible rfl) ?_; try simp only [Act.put, List.setIfInBounds_toArray, List.set_cons_zero, List.set_cons_succ])
    (refine Chain.done ?_; (try clear hF); intro wk hS; ((try clear hF); refine hfI ?_; intro hF))
    go_wp2
    go_ret
    refine ⟨A3, cap3, l' ++ v.text.data.toList, ?_, Lib.hid (by rw [Hl.out]; simp), ?_⟩
    · rw [List.length_append]; rfl
    · have := hS.sub (M := .row 5 1 A3 (l'.length + v.text.size) cap3 (l'.map B8 ++ Lib.strCells v.text) :: L) (by simp)
      rw [strCells_b8, ← List.map_append] at this
      unfold bRow
      rw [List.length_append]
      exact this
end Go.Proofs.YtlaldfkeaalnhaaGreatDoor

/- Conditions in memory. -/
namespace Go.Proofs.YtlaldfkeaalnhaaGreatDoor
set_option linter.all false
set_option linter.unusedSimpArgs false
set_option linter.unusedVariables false
open Go.RowKit
/-- a value's fields -/
@[go_sem] theorem run_field_kind (k n : Int) (s : ByteArray) (w : World) : (Instr.field 29 (.agg #[.int .i64 k, .int .i64 n, .string s]) 0).run Tryz.prog w = .ok (.int .i64 k) w := by kernel_rfl
@[go_sem] theorem run_field_num (k n : Int) (s : ByteArray) (w : World) : (Instr.field 29 (.agg #[.int .i64 k, .int .i64 n, .string s]) 1).run Tryz.prog w = .ok (.int .i64 n) w := by kernel_rfl
@[go_sem] theorem run_field_text (k n : Int) (s : ByteArray) (w : World) : (Instr.field 29 (.agg #[.int .i64 k, .int .i64 n, .string s]) 2).run Tryz.prog w = .ok (.string s) w := by kernel_rfl

/-- a condition -/
inductive CT where
  | nil
  | node (code : Int) (col : ByteArray) (v : GV) (l r : CT)

/-- a condition lies at a pointer -/
def CondAt (w : World) : Value → CT → Prop
  | v, .nil => v = .pointer none
  | v, .node c col x l r => ∃ b lv rv, v = .pointer (some ⟨b, 0, none⟩) ∧ w.heap[b]? = some (.cells #[.int .i64 c, .string col, .int .i64 x.kind, .int .i64 x.num, .string x.text, lv, rv] 136 (0, 0)) ∧ CondAt w lv l ∧ CondAt w rv r
theorem CondAt.ext {w w' : World} (hx : Ext w w') : ∀ {t : CT} {v : Value}, CondAt w v t → CondAt w' v t
  | .nil, v, h => h
  | .node c col x l r, v, h => by
    obtain ⟨b, lv, rv, rfl, hb, hl, hr⟩ := h
    have hlt : b < w.heap.size := by
      rcases Nat.lt_or_ge b w.heap.size with h | h
      · exact h
      · rw [Array.getElem?_eq_none h] at hb; cases hb
    exact ⟨b, lv, rv, rfl, (hx.block b hlt).trans hb, hl.ext hx, hr.ext hx⟩

end Go.Proofs.YtlaldfkeaalnhaaGreatDoor

/- ask: tokens, conditions as text, what is written: plain. -/
namespace Go.Proofs.YtlaldfkeaalnhaaGreatDoor
set_option linter.unusedSimpArgs false
set_option linter.unusedVariables false
open Go.RowKit
set_option linter.all false
/-- a token -/
structure Tk where
  kind : Int
  text : ByteArray
def smallB (c : UInt8) : Bool := decide (97 ≤ c.toNat) && decide (c.toNat ≤ 122)
def digitB (c : UInt8) : Bool := decide (48 ≤ c.toNat) && decide (c.toNat ≤ 57)
def wordB (c : UInt8) : Bool := smallB c || digitB c || c == 95
/-- how many letters from the first on are so -/
def runL (p : UInt8 → Bool) : List UInt8 → Nat
  | [] => 0
  | c :: l => if p c then runL p l + 1 else 0
def marksL : List (List UInt8) := [[60, 62], [60, 61], [62, 61], [61], [60], [62], [40], [41], [44], [42]]
def markIn : List (List UInt8) → List UInt8 → Nat
  | [], _ => 0
  | m :: ms, l => if Lib.hasPrefix l m then m.length else markIn ms l
/-- the token that stands first: its kind, how long (0: none) -/
def nextL : List UInt8 → Int × Nat
  | [] => (4, 0)
  | c :: r =>
    if smallB c then (1, runL wordB (c :: r))
    else if digitB c || (c == 45 && digitB (r.headD 0)) then (2, 1 + runL digitB r)
    else if c == 39 then (3, if 0 ≤ Lib.indexByte r 39 then (Lib.indexByte r 39).toNat + 2 else 0)
    else (4, markIn marksL (c :: r))
def endTk : Tk := ⟨5, ⟨#[]⟩⟩
/-- the tokens of a text, behind k others -/
def tokL : Nat → List UInt8 → Nat → Option (List Tk)
  | 0, _, _ => none
  | _ + 1, [], _ => some [endTk]
  | f + 1, c :: r, k =>
    if c == 32 then tokL f r k
    else if (nextL (c :: r)).2 = 0 ∨ k = 80 then none
    else match tokL f ((c :: r).drop (nextL (c :: r)).2) (k + 1) with
      | some l => some (⟨(nextL (c :: r)).1, ⟨((c :: r).take (nextL (c :: r)).2).toArray⟩⟩ :: l)
      | none => none
def kind1 : List Tk → Int
  | [] => 0
  | t :: _ => t.kind
def seeT (l : List Tk) (s : List UInt8) : Bool := match l with
  | [] => false
  | t :: _ => (t.text.data.toList == s) && (t.kind == 1 || t.kind == 4)
def kept11 : List ByteArray := [⟨#[97, 110, 100]⟩, ⟨#[105, 115]⟩, ⟨#[110, 111, 116]⟩, ⟨#[110, 117, 108, 108]⟩, ⟨#[111, 114]⟩, ⟨#[98, 121]⟩, ⟨#[100, 101, 115, 99]⟩, ⟨#[108, 105, 109, 105, 116]⟩, ⟨#[111, 114, 100, 101, 114]⟩, ⟨#[115, 101, 108, 101, 99, 116]⟩, ⟨#[119, 104, 101, 114, 101]⟩]
def nameT (t : Tk) : Bool := (t.kind == 1) && !Lib.containsS kept11 t.text && nameB t.text
def nameP : List Tk → Option (ByteArray × List Tk)
  | [] => none
  | t :: r => if nameT t then some (t.text, r) else none
def nullL : List UInt8 := [110, 117, 108, 108]
def notL : List UInt8 := [110, 111, 116]
def isL : List UInt8 := [105, 115]
def andL : List UInt8 := [97, 110, 100]
def orL : List UInt8 := [111, 114]
def midS (s : ByteArray) : ByteArray := s.extract 1 (s.size - 1)
/-- the value that a token is -/
def litT (t : Tk) : Option GV :=
  if t.kind = 2 then (match int64 t.text with | some n => some ⟨1, n, ⟨#[]⟩⟩ | none => none)
  else if t.kind = 3 then (if rightB 2 0 (midS t.text) then some ⟨2, 0, midS t.text⟩ else none)
  else if seeT [t] nullL then some ⟨0, 0, ⟨#[]⟩⟩ else none
def litP : List Tk → Option (GV × List Tk)
  | [] => none
  | t :: r => match litT t with | some v => some (v, r) | none => none
def codesS : List ByteArray := [⟨#[61]⟩, ⟨#[60, 62]⟩, ⟨#[60]⟩, ⟨#[60, 61]⟩, ⟨#[62]⟩, ⟨#[62, 61]⟩]
def codeT (t : Tk) : Int := if t.kind = 4 then Lib.idxOfS codesS t.text + 1 else 0
def zV : GV := ⟨0, 0, ⟨#[]⟩⟩
def opA (c : Int) (l r : CT) : CT := .node c ⟨#[]⟩ zV l r
/-- what stands behind a name -/
def restP (n : ByteArray) (l : List Tk) : Option (CT × List Tk) :=
  if seeT l isL then
    if seeT l.tail notL then (if seeT l.tail.tail nullL then some (.node 8 n zV .nil .nil, l.tail.tail.tail) else none)
    else if seeT l.tail nullL then some (.node 7 n zV .nil .nil, l.tail.tail) else none
  else match l with
    | [] => none
    | t :: r => if codeT t < 1 then none else match litP r with
      | some (v, r2) => some (.node (codeT t) n v .nil .nil, r2)
      | none => none
def leafP (l : List Tk) : Option (CT × List Tk) := match nameP l with
  | some (n, r) => restP n r
  | none => none
mutual
def oneP : Nat → Nat → List Tk → Option (CT × List Tk)
  | 0, _, _ => none
  | f + 1, d, l =>
    if 6 < d then none
    else if seeT l notL then (match oneP f (d + 1) l.tail with | some (c, r) => some (opA 11 c .nil, r) | none => none)
    else if seeT l [40] then (match orP f (d + 1) l.tail with | some (c, r) => if seeT r [41] then some (c, r.tail) else none | none => none)
    else leafP l
def andP : Nat → Nat → List Tk → Option (CT × List Tk)
  | 0, _, _ => none
  | f + 1, d, l => match oneP f d l with | some (c, r) => andQ f d c r | none => none
def andQ : Nat → Nat → CT → List Tk → Option (CT × List Tk)
  | 0, _, _, _ => none
  | f + 1, d, c, l => if seeT l andL then (match oneP f d l.tail with | some (e, r) => andQ f d (opA 9 c e) r | none => none) else some (c, l)
def orP : Nat → Nat → List Tk → Option (CT × List Tk)
  | 0, _, _ => none
  | f + 1, d, l => match andP f d l with | some (c, r) => orQ f d c r | none => none
def orQ : Nat → Nat → CT → List Tk → Option (CT × List Tk)
  | 0, _, _, _ => none
  | f + 1, d, c, l => if seeT l orL then (match andP f d l.tail with | some (e, r) => orQ f d (opA 10 c e) r | none => none) else some (c, l)
end
end Go.Proofs.YtlaldfkeaalnhaaGreatDoor

/- ask: what is written is read: tokens (plain). -/
namespace Go.Proofs.YtlaldfkeaalnhaaGreatDoor
set_option linter.unusedSimpArgs false
set_option linter.unusedVariables false
open Go.RowKit
set_option linter.all false
theorem runL_le (p : UInt8 → Bool) : ∀ l, runL p l ≤ l.length
  | [] => Nat.le_refl _
  | c :: l => by
    unfold runL
    have := runL_le p l
    split
    · simp only [List.length_cons]; omega
    · simp
theorem runL_app (p : UInt8 → Bool) : ∀ (a b : List UInt8), (∀ c ∈ a, p c = true) → (p (b.headD 0) = false) → runL p (a ++ b) = a.length
  | [], [], _, _ => rfl
  | [], c :: b, _, h => by
    simp at h
    simp [runL, h]
  | c :: a, b, ha, hb => by
    have h1 := ha c (by simp)
    simp only [List.cons_append, runL, h1, if_true, List.length_cons]
    rw [runL_app p a b (fun c hc => ha c (by simp [hc])) hb]
theorem markIn_le : ∀ (ms : List (List UInt8)) (l : List UInt8), markIn ms l ≤ l.length
  | [], _ => Nat.zero_le _
  | m :: ms, l => by
    unfold markIn
    split
    · rename_i h
      unfold Lib.hasPrefix at h
      exact (List.isPrefixOf_iff_prefix.1 h).length_le
    · exact markIn_le ms l
theorem nextL_le : ∀ l, (nextL l).2 ≤ l.length
  | [] => Nat.le_refl _
  | c :: r => by
    simp only [nextL]
    have h1 := runL_le wordB (c :: r)
    have h2 := runL_le digitB r
    have h3 := markIn_le marksL (c :: r)
    split
    · exact h1
    split
    · simp only [List.length_cons]; omega
    split
    · simp only [List.length_cons]
      split
      · rename_i h
        obtain ⟨m, hm⟩ := Int.eq_ofNat_of_zero_le h
        have := (idx_cut hm).1
        omega
      · omega
    · exact h3
inductive Lx : List UInt8 → List Tk → Prop
  | nil : Lx [] []
  | sp {r : List UInt8} {ts : List Tk} (h : Lx r ts) : Lx (32 :: r) ts
  | tk {c : UInt8} {r : List UInt8} {ts : List Tk} (hc : c ≠ 32) (hn : 0 < (nextL (c :: r)).2) (h : Lx ((c :: r).drop (nextL (c :: r)).2) ts) :
      Lx (c :: r) (⟨(nextL (c :: r)).1, ⟨((c :: r).take (nextL (c :: r)).2).toArray⟩⟩ :: ts)
theorem tokL_of {bs : List UInt8} {ts : List Tk} (h : Lx bs ts) : ∀ f k, bs.length < f → ts.length + k ≤ 80 → tokL f bs k = some (ts ++ [endTk]) := by
  induction h with
  | nil =>
    intro f k hf _
    cases f with
    | zero => omega
    | succ f => rfl
  | sp h ih =>
    intro f k hf hk
    cases f with
    | zero => omega
    | succ f =>
      simp only [List.length_cons] at hf
      unfold tokL
      simp only [beq_self_eq_true, if_true]
      exact ih f k (by omega) hk
  | @tk c r ts hc hn h ih =>
    intro f k hf hk
    cases f with
    | zero => omega
    | succ f =>
      simp only [List.length_cons] at hf hk
      have hc' : (c == 32) = false := by simp [hc]
      unfold tokL
      rw [if_neg (by simp [hc]), if_neg (by omega), ih f (k + 1) (by rw [List.length_drop, List.length_cons]; omega) (by omega)]
      rfl
theorem of_tokL : ∀ (f : Nat) (bs : List UInt8) (k : Nat) (l : List Tk), tokL f bs k = some l → ∃ ts, l = ts ++ [endTk] ∧ Lx bs ts ∧ (k ≤ 80 → ts.length + k ≤ 80)
  | 0, bs, k, l, h => by simp [tokL] at h
  | f + 1, [], k, l, h => by
    simp only [tokL, Option.some.injEq] at h
    exact ⟨[], h.symm, .nil, fun h => by simpa using h⟩
  | f + 1, c :: r, k, l, h => by
    unfold tokL at h
    by_cases hc : c = 32
    · subst hc
      simp only [beq_self_eq_true, if_true] at h
      obtain ⟨ts, h1, h2, h3⟩ := of_tokL f r k l h
      exact ⟨ts, h1, .sp h2, h3⟩
    rw [if_neg (by simp [hc])] at h
    split at h
    · cases h
    rename_i hx
    cases hm : tokL f ((c :: r).drop (nextL (c :: r)).2) (k + 1) with
    | none => rw [hm] at h; cases h
    | some m =>
      rw [hm] at h
      obtain ⟨ts, h1, h2, h3⟩ := of_tokL f _ (k + 1) m hm
      simp only [Option.some.injEq] at h
      refine ⟨_ :: ts, ?_, .tk hc (by omega) h2, fun hk => ?_⟩
      · rw [← h, h1]; rfl
      · have := h3 (by omega)
        simp only [List.length_cons]
        omega
/-- what may stand behind a token -/
def sepL (l : List UInt8) : Prop := l = [] ∨ ∃ r, l = 32 :: r ∨ l = 41 :: r
def mkT (k : Int) (l : List UInt8) : Tk := ⟨k, ⟨l.toArray⟩⟩
theorem lx_of {k : Int} {w rest : List UInt8} {ts : List Tk} (hw : w ≠ []) (h32 : w.head? ≠ some 32) (hn : nextL (w ++ rest) = (k, w.length)) (h : Lx rest ts) : Lx (w ++ rest) (mkT k w :: ts) := by
  cases w with
  | nil => exact absurd rfl hw
  | cons c w =>
    have h1 : (nextL ((c :: w) ++ rest)).2 = (c :: w).length := by rw [hn]
    have h2 : (nextL ((c :: w) ++ rest)).1 = k := by rw [hn]
    have h3 := @Lx.tk c (w ++ rest) ts (fun e => h32 (by rw [e]; rfl)) (by rw [← List.cons_append, h1]; simp) (by rw [← List.cons_append, h1, List.drop_left]; exact h)
    rw [← List.cons_append, h1, h2, List.take_left] at h3
    exact h3
theorem sep_word {l : List UInt8} (h : sepL l) : wordB (l.headD 0) = false := by
  rcases h with rfl | ⟨r, rfl | rfl⟩ <;> rfl
theorem small_ne {c : UInt8} (h : smallB c = true) : c ≠ 32 ∧ c ≠ 45 ∧ c ≠ 39 := by
  refine ⟨?_, ?_, ?_⟩ <;> (rintro rfl; simp [smallB] at h)
theorem lx_word {w rest : List UInt8} {ts : List Tk} (hw : ∃ c r, w = c :: r ∧ smallB c = true) (ha : ∀ c ∈ w, wordB c = true) (hs : wordB (rest.headD 0) = false) (h : Lx rest ts) : Lx (w ++ rest) (mkT 1 w :: ts) := by
  obtain ⟨c, r, rfl, hc⟩ := hw
  refine lx_of (by simp) (fun e => (small_ne hc).1 (by simpa using e)) ?_ h
  simp only [List.cons_append, nextL, hc, if_true]
  rw [← List.cons_append, runL_app wordB _ _ ha hs]
theorem digit_of {c : UInt8} (h : 48 ≤ c.toNat ∧ c.toNat ≤ 57) : digitB c = true := by simp [digitB, h.1, h.2]
theorem digit_small {c : UInt8} (h : digitB c = true) : smallB c = false := by
  simp only [digitB, Bool.and_eq_true, decide_eq_true_eq] at h
  simp only [smallB, Bool.and_eq_false_iff, decide_eq_false_iff_not]
  omega
theorem lx_num (n : Int) {rest : List UInt8} {ts : List Tk} (hs : digitB (rest.headD 0) = false) (h : Lx rest ts) : Lx (itoaL n ++ rest) (mkT 2 (itoaL n) :: ts) := by
  have key : ∀ u : Nat, ∃ c r, Lib.decDigits u = c :: r ∧ digitB c = true ∧ ∀ x ∈ r, digitB x = true := fun u => by
    obtain ⟨c, r, h1, h2, h3⟩ := dec_cons u
    refine ⟨c, r, h1, digit_of ⟨h2, h3⟩, fun x hx => digit_of (digits_plain u x (by rw [h1]; simp [hx]))⟩
  rw [itoaL_eq]
  unfold Lib.itoa
  split
  · rename_i hneg
    obtain ⟨c, r, h1, h2, h3⟩ := key n.natAbs
    rw [h1]
    refine lx_of (by simp) (by simp) ?_ h
    simp only [List.cons_append, nextL, show smallB 45 = false from rfl, Bool.false_eq_true, if_false, List.headD_cons, h2, beq_self_eq_true, Bool.and_self, Bool.or_true, if_true]
    rw [← List.cons_append, runL_app digitB _ _ (fun x hx => by rcases List.mem_cons.1 hx with rfl | hx; exact h2; exact h3 x hx) hs]
    simp only [List.length_cons]
    congr 1
    omega
  · obtain ⟨c, r, h1, h2, h3⟩ := key n.toNat
    rw [h1]
    refine lx_of (by simp) (fun e => ?_) ?_ h
    · have : c = 32 := by simpa using e
      subst this
      simp [digitB] at h2
    · simp only [List.cons_append, nextL, digit_small h2, Bool.false_eq_true, if_false, h2, Bool.true_or, if_true]
      rw [runL_app digitB _ _ h3 hs]
      simp only [List.length_cons]
      congr 1
      omega
theorem lx_open {rest : List UInt8} {ts : List Tk} (h : Lx rest ts) : Lx ([40] ++ rest) (mkT 4 [40] :: ts) := by
  refine lx_of (by simp) (by simp) ?_ h
  simp [nextL, smallB, digitB, markIn, marksL, Lib.hasPrefix]
theorem lx_close {rest : List UInt8} {ts : List Tk} (h : Lx rest ts) : Lx ([41] ++ rest) (mkT 4 [41] :: ts) := by
  refine lx_of (by simp) (by simp) ?_ h
  simp [nextL, smallB, digitB, markIn, marksL, Lib.hasPrefix]
end Go.Proofs.YtlaldfkeaalnhaaGreatDoor

/- ask: what is written is read: conditions (plain). -/
namespace Go.Proofs.YtlaldfkeaalnhaaGreatDoor
set_option linter.unusedSimpArgs false
set_option linter.unusedVariables false
open Go.RowKit
set_option linter.all false
theorem sep_sp (r : List UInt8) : sepL (32 :: r) := .inr ⟨r, .inl rfl⟩
theorem name_word {col : ByteArray} (h : nameT ⟨1, col⟩ = true) : (∃ c r, col.data.toList = c :: r ∧ smallB c = true) ∧ ∀ c ∈ col.data.toList, wordB c = true := by
  unfold nameT at h
  simp only [Bool.and_eq_true] at h
  have h := h.2
  unfold nameB at h
  simp only [Bool.and_eq_true, decide_eq_true_eq] at h
  obtain ⟨⟨⟨h0, _⟩, h1⟩, h2⟩ := h
  have hm := trimS_nil h2
  have hin : ∀ c ∈ col.data.toList, wordB c = true := fun c hc => by
    have : ∀ x ∈ cutL, wordB x = true := by decide
    exact this c (hm c hc)
  refine ⟨?_, hin⟩
  cases hl : col.data.toList with
  | nil => have := Lib.size_eq col; rw [hl, List.length_nil] at this; omega
  | cons c r =>
    refine ⟨c, r, rfl, ?_⟩
    rw [hl, List.headD_cons] at h1
    have hmem : c ∈ lettersL := by
      by_cases hx : c ∈ lettersL
      · exact hx
      · exfalso
        have : ∀ (l : List UInt8), c ∉ l → Lib.indexByte l c = -1 := by
          intro l
          induction l with
          | nil => intro _; rfl
          | cons a l ih =>
            intro hn
            simp only [List.mem_cons, not_or] at hn
            unfold Lib.indexByte
            rw [if_neg (by simp; exact fun e => hn.1 e.symm), ih hn.2]
            rfl
        rw [this _ hx] at h1
        omega
    have : ∀ x ∈ lettersL, smallB x = true := by decide
    exact this c hmem
theorem lx_kw {w : List UInt8} (h : ∃ c r, w = c :: r ∧ smallB c = true) (ha : (w.all wordB) = true) {rest : List UInt8} {ts : List Tk} (hs : sepL rest) (hr : Lx rest ts) : Lx (w ++ rest) (mkT 1 w :: ts) :=
  lx_word h (fun c hc => List.all_eq_true.1 ha c hc) (sep_word hs) hr
end Go.Proofs.YtlaldfkeaalnhaaGreatDoor

/- ask: what is written is read: the parser (plain). -/
namespace Go.Proofs.YtlaldfkeaalnhaaGreatDoor
set_option linter.unusedSimpArgs false
set_option linter.unusedVariables false
open Go.RowKit
set_option linter.all false
theorem see_mk (k : Int) (w : List UInt8) (l : List Tk) (s : List UInt8) : seeT (mkT k w :: l) s = ((w == s) && (k == 1 || k == 4)) := by
  simp [seeT, mkT]
theorem tkeq {col : ByteArray} : mkT 1 col.data.toList = ⟨1, col⟩ := by simp [mkT]
theorem num_back {n : Int} (hn : i64 n) : int64 ⟨(itoaL n).toArray⟩ = some n := by
  unfold int64
  rw [itoaL_eq]
  have := parse_itoa n hn
  simp only [this]
end Go.Proofs.YtlaldfkeaalnhaaGreatDoor

/- ask: what is read is such as is written; what is written is read (plain). -/
namespace Go.Proofs.YtlaldfkeaalnhaaGreatDoor
set_option linter.unusedSimpArgs false
set_option linter.unusedVariables false
open Go.RowKit
set_option linter.all false
theorem see_tail {m : List Tk} {s : List UInt8} (h : seeT m s = true) : m.length = m.tail.length + 1 := by
  cases m with
  | nil => simp [seeT] at h
  | cons t m => rfl
theorem nextL_kind : ∀ l, 1 ≤ (nextL l).1 ∧ (nextL l).1 ≤ 4
  | [] => by decide
  | c :: r => by
    simp only [nextL]
    repeat' split
    all_goals (constructor <;> simp)
theorem nextL_text (l : List UInt8) (h : (nextL l).1 = 3) (hp : 0 < (nextL l).2) : 2 ≤ (nextL l).2 := by
  cases l with
  | nil => simp [nextL] at h
  | cons c r =>
    simp only [nextL] at h hp ⊢
    split at h
    · simp at h
    rename_i h1
    rw [if_neg h1] at hp ⊢
    split at h
    · simp at h
    rename_i h2
    rw [if_neg h2] at hp ⊢
    split at h
    · rename_i h3
      rw [if_pos h3] at hp ⊢
      simp only at hp ⊢
      split at hp
      · rename_i h4
        rw [if_pos h4]
        omega
      · omega
    · simp at h
/-- what tokens are -/
def TkOk (n : Nat) (t : Tk) : Prop := 1 ≤ t.kind ∧ t.kind ≤ 5 ∧ t.text.size ≤ n ∧ (t.kind = 3 → 2 ≤ t.text.size)
theorem lx_ok {bs : List UInt8} {ts : List Tk} (h : Lx bs ts) : ∀ n, bs.length ≤ n → ∀ t ∈ ts, TkOk n t ∧ t.kind ≠ 5 := by
  induction h with
  | nil => intro n _ t ht; cases ht
  | sp h ih => intro n hn t ht; simp only [List.length_cons] at hn; exact ih n (by omega) t ht
  | @tk c r ts hc hp h ih =>
    intro n hn t ht
    rcases List.mem_cons.1 ht with rfl | ht
    · have h1 := nextL_kind (c :: r)
      have h2 := nextL_le (c :: r)
      have h3 := nextL_text (c :: r)
      have e : (⟨((c :: r).take (nextL (c :: r)).2).toArray⟩ : ByteArray).size = (nextL (c :: r)).2 := by
        rw [Lib.size_eq]
        simp only [List.length_take]
        omega
      refine ⟨⟨h1.1, by show (nextL (c :: r)).1 ≤ 5; omega, by rw [e]; omega, fun hk => by rw [e]; exact h3 hk hp⟩, ?_⟩
      show (nextL (c :: r)).1 ≠ 5
      omega
    · exact ih n (by rw [List.length_drop]; omega) t ht
end Go.Proofs.YtlaldfkeaalnhaaGreatDoor

/- An argument that is a slice of values: what its cells hold. -/
namespace Go.Proofs.YtlaldfkeaalnhaaGreatDoor
set_option linter.unusedSimpArgs false
set_option linter.unusedVariables false
open Go.RowKit
set_option linter.all false
open Go.ChangeShapes Go.WideShapes Go.ChangeAt Go.Joins Go.Deep
set_option maxRecDepth 100000 in
/-- the cells of a value -/
theorem val_cells {H : Type} {enc : TypeId × Value → H} {w : World} {base fuel : Nat} {spare : Nat → Bool} {held : Bool} {cs : List Value} {x : DataW H × List MemPlace} (h : DataW.trod enc Tryz.prog w base spare held fuel 29 cs = some x) :
    ∃ p : GV, cs = [.int .i64 p.kind, .int .i64 p.num, .string p.text] ∧ i64 p.num := by
  obtain ⟨y0, y1, y2, n, _, hl, h0, h1, h2⟩ := trod_struct3 Tryz.underlying29 h
  rw [Tryz.cellsVal] at hl
  match cs, hl with
  | [c0, c1, c2], _ =>
    simp only [Tryz.cellsInt, Tryz.cellsInt64, Tryz.cellsString, List.drop_zero, List.drop_succ_cons, List.take_succ_cons, List.take_zero] at h0 h1 h2
    obtain ⟨kind, e2, _, _⟩ := DataW.trod_int Tryz.underlying3 h0
    obtain ⟨num, e3, _, wn⟩ := DataW.trod_int Tryz.underlying2 h1
    obtain ⟨text, e4, _, _⟩ := DataW.trod_string Tryz.underlying9 h2
    simp only [List.cons.injEq, and_true] at e2 e3 e4
    subst e2 e3 e4
    exact ⟨⟨kind, num, text⟩, rfl, i64_wf wn⟩
end Go.Proofs.YtlaldfkeaalnhaaGreatDoor

/- ask: what is asked, as text: plain. -/
namespace Go.Proofs.YtlaldfkeaalnhaaGreatDoor
set_option linter.unusedSimpArgs false
set_option linter.unusedVariables false
open Go.RowKit
set_option linter.all false
/-- an item: what comes of a column (or of all: *), or a column -/
structure IT where
  fn : ByteArray
  col : ByteArray
/-- what is asked -/
structure QG where
  items : List IT
  whr : CT
  by_ : List ByteArray
  ord : List (Int × Bool)
  limit : Int
def countS : ByteArray := ⟨#[99, 111, 117, 110, 116]⟩
def maxS : ByteArray := ⟨#[109, 97, 120]⟩
def minS : ByteArray := ⟨#[109, 105, 110]⟩
def sumS : ByteArray := ⟨#[115, 117, 109]⟩
def fns4 : List ByteArray := [countS, maxS, minS, sumS]
def starS : ByteArray := ⟨#[42]⟩
def noS : ByteArray := ⟨#[]⟩
def selL : List UInt8 := [115, 101, 108, 101, 99, 116]
def whrL : List UInt8 := [119, 104, 101, 114, 101]
def byL : List UInt8 := [98, 121]
def ordL : List UInt8 := [111, 114, 100, 101, 114]
def limL : List UInt8 := [108, 105, 109, 105, 116]
def descL : List UInt8 := [100, 101, 115, 99]
/-- a bracket that closes -/
def closeP (x : IT) (l : List Tk) : Option (IT × List Tk) := if seeT l [41] then some (x, l.tail) else none
def fnP (n : ByteArray) (l : List Tk) : Option (IT × List Tk) :=
  if (n.data.toList == countS.data.toList) && seeT l [42] then closeP ⟨n, starS⟩ l.tail
  else match nameP l with
    | some (c, r) => closeP ⟨n, c⟩ r
    | none => none
def itemP (l : List Tk) : Option (IT × List Tk) := match nameP l with
  | some (n, r) => if Lib.containsS fns4 n && seeT r [40] then fnP n r.tail else some (⟨noS, n⟩, r)
  | none => none
/-- a number from 1 to most -/
def sizeP (most : Int) : List Tk → Option (Int × List Tk)
  | [] => none
  | t :: r => if t.kind = 2 then (match int64 t.text with | some n => if n < 1 ∨ most < n then none else some (n, r) | none => none) else none
def orderP (most : Int) (l : List Tk) : Option ((Int × Bool) × List Tk) := match sizeP most l with
  | some (n, r) => some ((n - 1, seeT r descL), if seeT r descL then r.tail else r)
  | none => none
/-- some with , between -/
def listQ {α : Type} (f : List Tk → Option (α × List Tk)) : Nat → List α → List Tk → Option (List α × List Tk)
  | 0, _, _ => none
  | k + 1, acc, l => if seeT l [44] then (match f l.tail with | some (x, r) => listQ f k (acc ++ [x]) r | none => none) else some (acc, l)
def listP {α : Type} (f : List Tk → Option (α × List Tk)) (l : List Tk) : Option (List α × List Tk) := match f l with
  | some (x, r) => listQ f (r.length + 1) [x] r
  | none => none
def q4P (q : QG) (l : List Tk) : Option (QG × List Tk) := if seeT l limL then (match sizeP 1000000 l.tail with | some (n, r) => some ({ q with limit := n }, r) | none => none) else some (q, l)
def q3P (q : QG) (l : List Tk) : Option (QG × List Tk) := if seeT l ordL then (match listP (orderP q.items.length) l.tail with | some (x, r) => q4P { q with ord := x } r | none => none) else q4P q l
def q2P (q : QG) (l : List Tk) : Option (QG × List Tk) := if seeT l byL then (match listP nameP l.tail with | some (x, r) => q3P { q with by_ := x } r | none => none) else q3P q l
def q1P (q : QG) (l : List Tk) : Option (QG × List Tk) := if seeT l whrL then (match orP (4 * l.tail.length + 3) 0 l.tail with | some (c, r) => q2P { q with whr := c } r | none => none) else q2P q l
def queryP (l : List Tk) : Option (QG × List Tk) := if seeT l selL then (match listP itemP l.tail with | some (x, r) => q1P ⟨x, .nil, [], [], 0⟩ r | none => none) else none
/-- what a text asks -/
def parseQ (s : List UInt8) : Option QG := match tokL (s.length + 1) s 0 with
  | none => none
  | some l => match queryP l with
    | some (q, r) => if kind1 r = 5 then some q else none
    | none => none
end Go.Proofs.YtlaldfkeaalnhaaGreatDoor
