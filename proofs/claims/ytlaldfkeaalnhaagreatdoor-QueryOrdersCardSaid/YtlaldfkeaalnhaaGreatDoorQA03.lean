/- Texts joined: numbers in letters: what ParseInt answers. lists of letters: numbers, cuts, trims: plain. A region of quiet operations, of new blocks, and of a tail that waits for them: walked in the order of the text, whatever order is drawn. For any program. A region of quiet operations, of new blocks, and of a tail: the two phases. For any program. A region of quiet operations, of new blocks, and of a tail: the theorem. For any program. A region of quiet operations and of a chain: the operations of the chain come one behind the other, whatever order is drawn, and may turn what the call owns; the quiet ones come when they like. For any program. Regions under Hp: quiet operations and a chain that turns what the call owns. For any program. A region of quiet operations and of others that may turn what the call owns, these in every order that is allowed. For any program. As BraidZ: and operations from number z on wait for all quiet ones: they may turn what these read. For any program. As Braid2, where three operations may come next. For any program. In place: a row is shrunk, appended to where there is room, cleared behind its end. For any program. -/
import Derived.Test.YtlaldfkeaalnhaaGreatDoorQA01
import Derived.Test.YtlaldfkeaalnhaaGreatDoorQA02
import Derived.Lib.SmallJoins
import Derived.Lib.SlTrimSet
import Derived.Deep.DeepAppendRoom
import Derived.Lib.SliceRun
/- numbers in letters: what ParseInt answers. -/
namespace Go.Proofs.YtlaldfkeaalnhaaGreatDoor
set_option linter.unusedSimpArgs false
set_option linter.unusedVariables false
open Go.RowKit
set_option linter.all false
theorem pM_app (M : Nat) : ∀ (l : List UInt8) (acc : Nat) (m : List UInt8), Lib.parseUintM M acc (l ++ m) = (match Lib.parseUintM M acc l with | .ok a => Lib.parseUintM M a m | e => e)
  | [], acc, m => rfl
  | c :: l, acc, m => by
    rw [List.cons_append]
    simp only [Lib.parseUintM]
    split
    · split
      · rfl
      · split
        · rfl
        · exact pM_app M l _ m
    · rfl
theorem dig_nat {d : Nat} (h : d < 10) : (UInt8.ofNat (48 + d)).toNat = 48 + d := by
  rw [UInt8.toNat_ofNat']
  omega
theorem pM_dec (u : Nat) (hu : u < 18446744073709551616) : Lib.parseUintM (2 ^ 64 - 1) 0 (Lib.decDigits u) = .ok u := by
  rw [Lib.decDigits]
  split
  · rename_i h
    simp only [Lib.parseUintM]
    rw [dig_nat h, if_pos (by omega), if_neg (by omega), if_neg (by omega)]
    congr 1
    omega
  · rename_i h
    rw [pM_app, pM_dec (u / 10) (by omega)]
    simp only [Lib.parseUintM]
    rw [dig_nat (Nat.mod_lt u (by omega)), if_pos (by omega), if_neg (by omega), if_neg (by omega)]
    congr 1
    omega
termination_by u
theorem dec_cons (u : Nat) : ∃ c r, Lib.decDigits u = c :: r ∧ 48 ≤ c.toNat ∧ c.toNat ≤ 57 := by
  rw [Lib.decDigits]
  split
  · rename_i h
    exact ⟨_, _, rfl, by rw [dig_nat h]; omega, by rw [dig_nat h]; omega⟩
  · obtain ⟨c, r, h1, h2, h3⟩ := dec_cons (u / 10)
    exact ⟨c, r ++ _, by rw [h1]; rfl, h2, h3⟩
termination_by u
theorem parse_itoa (n : Int) (hn : i64 n) : Lib.parseIntB 64 (Lib.itoa n) = .ok n := by
  unfold i64 at hn
  unfold Lib.itoa
  split
  · rename_i h
    obtain ⟨c, r, h1, h2, h3⟩ := dec_cons n.natAbs
    have hp : Lib.parseUintB 64 (Lib.decDigits n.natAbs) = .ok n.natAbs := by
      unfold Lib.parseUintB
      rw [if_neg (by rw [h1]; simp), pM_dec _ (by omega)]
    simp only [Lib.parseIntB, show (45 : UInt8).toNat = 45 from rfl, or_true, if_true]
    rw [hp]
    simp only [not_true_eq_false, false_and, if_false, true_and, if_true]
    rw [if_neg (by omega)]
    congr 1
    omega
  · rename_i h
    obtain ⟨c, r, h1, h2, h3⟩ := dec_cons n.toNat
    have hp : Lib.parseUintB 64 (c :: r) = .ok n.toNat := by
      unfold Lib.parseUintB
      rw [if_neg (by simp), ← h1, pM_dec _ (by omega)]
    rw [h1]
    simp only [Lib.parseIntB]
    rw [if_neg (by omega), hp]
    simp only
    rw [if_neg (by omega), if_neg (by omega), if_neg (by omega)]
    congr 1
    omega
def SynAt (w : World) : Prop := ∃ tp p, w.var? Tryz.prog "strconv.ErrSyntax" = some #[.iface tp p]
def RngAt (w : World) : Prop := ∃ tp p, w.var? Tryz.prog "strconv.ErrRange" = some #[.iface tp p]
theorem var_ext {w w' : World} {name : String} {g : Nat} {cs : Array Value} (hg : Tryz.prog.globalNamed name = some g) (h : w.var? Tryz.prog name = some cs) (hx : Ext w w') : w'.var? Tryz.prog name = some cs := by
  unfold World.var? at *
  rw [hg] at h ⊢
  simp only [Option.bind_some] at h ⊢
  have hlt : g < w.heap.size := by
    by_cases hc : g < w.heap.size
    · exact hc
    · rw [Array.getElem?_eq_none (by omega)] at h
      cases h
  rw [hx.block g hlt]
  exact h
theorem SynAt.ext {w w' : World} (h : SynAt w) (hx : Ext w w') : SynAt w' := by
  obtain ⟨tp, p, h⟩ := h
  exact ⟨tp, p, var_ext (g := 6) (by kernel_rfl) h hx⟩
theorem RngAt.ext {w w' : World} (h : RngAt w) (hx : Ext w w') : RngAt w' := by
  obtain ⟨tp, p, h⟩ := h
  exact ⟨tp, p, var_ext (g := 7) (by kernel_rfl) h hx⟩
theorem ext_bytes {w w' : World} {e : TypeId} (h : w' = w ∨ ∃ t, w' = Lib.bytesWorld w e t) : Ext w w' := by
  rcases h with rfl | ⟨t, rfl⟩
  · exact Ext.refl _
  · exact Go.Joins.below_bytesWorld _ _ _ _ (Nat.le_refl _)
/-- the number that letters are -/
def int64 (s : ByteArray) : Option Int := match Lib.parseIntB 64 s.data.toList with
  | .ok v => some v
  | _ => none
/-- how ParseInt ends, wholly -/
theorem parseInt_all (s : ByteArray) (hs : s.size ≤ 1000000) (w : World) (hy : SynAt w) (hr : RngAt w) :
    Calls Tryz.prog 74 #[.string s, .int .i64 10, .int .i64 64] w fun e w' => (∃ (n : Int) (er : Value), e = .returned (.tuple #[.int .i64 n, er]) ∧ ((er = .nilIface ∧ int64 s = some n) ∨ (∃ tp pv, er = .iface tp pv) ∧ int64 s = none)) ∧ Ext w w' := by
  match h : Lib.parseIntB 64 s.data.toList with
  | .ok v => exact (Tryz.strconv_ParseInt_10_at64_ok s (by omega) v h w).mono fun e w' ⟨h1, h2⟩ => ⟨⟨v, .nilIface, h1, .inl ⟨rfl, by unfold int64; rw [h]⟩⟩, ext_bytes h2⟩
  | Lib.NumEnd.syntax =>
    obtain ⟨tp, p, hy⟩ := hy
    exact (Tryz.strconv_ParseInt_10_at64_syntax_var s (by omega) h tp p w hy).mono fun e w' ⟨N, h1, _, _, h2⟩ => ⟨⟨0, _, h1, .inr ⟨⟨_, _, rfl⟩, by unfold int64; rw [h]⟩⟩, h2⟩
  | .range =>
    obtain ⟨tp, p, hr⟩ := hr
    exact (Tryz.strconv_ParseInt_10_at64_range_var s (by omega) h tp p w hr).mono fun e w' ⟨N, h1, _, _, h2⟩ => ⟨⟨_, _, h1, .inr ⟨⟨_, _, rfl⟩, by unfold int64; rw [h]⟩⟩, h2⟩
end Go.Proofs.YtlaldfkeaalnhaaGreatDoor

/- lists of letters: numbers, cuts, trims: plain. -/
namespace Go.Proofs.YtlaldfkeaalnhaaGreatDoor
set_option linter.unusedSimpArgs false
set_option linter.unusedVariables false
open Go.RowKit
set_option linter.all false
theorem ba_ext {a b : ByteArray} (h : a.data.toList = b.data.toList) : a = b := by
  obtain ⟨⟨l⟩⟩ := a
  obtain ⟨⟨m⟩⟩ := b
  simp at h
  subst h
  rfl
theorem idx_cut {l : List UInt8} {mk : UInt8} {m : Nat} (h : Lib.indexByte l mk = m) : m < l.length ∧ l = l.take m ++ mk :: l.drop (m + 1) ∧ ∀ c ∈ l.take m, c ≠ mk := by
  obtain ⟨h1, h2⟩ := Lib.indexByte_some h
  obtain ⟨hk, e⟩ := List.getElem?_eq_some_iff.1 h1
  refine ⟨hk, ?_, fun c hc e2 => ?_⟩
  · have h3 : l[m] :: l.drop (m + 1) = l.drop m := (List.drop_eq_getElem_cons hk).symm
    rw [← e, h3, List.take_append_drop]
  · obtain ⟨k, hk2⟩ := List.getElem?_of_mem hc
    rw [List.getElem?_take] at hk2
    split at hk2
    · rename_i h4
      exact h2 k h4 (by rw [hk2, e2])
    · cases hk2
-- letters of numbers
theorem digits_plain : ∀ (u : Nat), ∀ c ∈ Lib.decDigits u, 48 ≤ c.toNat ∧ c.toNat ≤ 57
  | u => by
    intro c hc
    rw [Lib.decDigits] at hc
    split at hc
    · rename_i h
      obtain rfl := List.mem_singleton.1 hc
      rw [dig_nat h]
      omega
    · rename_i h
      rcases List.mem_append.1 hc with hc | hc
      · exact digits_plain (u / 10) c hc
      · obtain rfl := List.mem_singleton.1 hc
        rw [dig_nat (Nat.mod_lt u (by omega))]
        omega
termination_by u => u
theorem revDig_dec : ∀ (u : Nat), (revDig u).reverse = Lib.decDigits u
  | u => by
    rw [Lib.decDigits]
    split
    · rename_i h
      rw [revDig_last u (by omega), show u % 10 = u by omega]
      rfl
    · rename_i h
      rw [revDig_step u (by omega), List.reverse_cons, revDig_dec (u / 10)]
termination_by u => u
theorem itoaL_eq (n : Int) : itoaL n = Lib.itoa n := by
  unfold itoaL Lib.itoa
  rw [List.reverse_append, revDig_dec]
  split
  · rfl
  · rw [show n.toNat = n.natAbs by omega]; rfl
-- letters of names
theorem dropW_nil {p : UInt8 → Bool} : ∀ {l : List UInt8}, l.dropWhile p = [] → ∀ x ∈ l, p x = true
  | [], _, x, h => by cases h
  | y :: l, h, x, hx => by
    rw [List.dropWhile_cons] at h
    split at h
    · rename_i hy
      rcases List.mem_cons.1 hx with rfl | hx
      · exact hy
      · exact dropW_nil h x hx
    · cases h
theorem dropW_head {p : UInt8 → Bool} : ∀ {l r : List UInt8} {x : UInt8}, l.dropWhile p = x :: r → p x = false
  | [], r, x, h => by cases h
  | y :: l, r, x, h => by
    rw [List.dropWhile_cons] at h
    split at h
    · exact dropW_head h
    · rename_i hy
      obtain ⟨rfl, _⟩ := List.cons.inj h
      simpa using hy
theorem trimS_nil {l cs : List UInt8} (h : (Lib.trimS l cs).isEmpty = true) : ∀ c ∈ l, c ∈ cs := by
  have h1 : Lib.trimS l cs = [] := List.isEmpty_iff.1 h
  unfold Lib.trimS Lib.trimLeftS Lib.trimRightS at h1
  have h2 : ∀ c ∈ (l.reverse.dropWhile (cs.contains ·)), cs.contains c = true := fun c hc => dropW_nil h1 c (by simpa using hc)
  have h3 : l.reverse.dropWhile (cs.contains ·) = [] := by
    cases hd : l.reverse.dropWhile (cs.contains ·) with
    | nil => rfl
    | cons x r =>
      have h4 := h2 x (by rw [hd]; simp)
      rw [dropW_head hd] at h4
      cases h4
  intro c hc
  have := dropW_nil h3 c (by simpa using hc)
  simpa using this
end Go.Proofs.YtlaldfkeaalnhaaGreatDoor

/- A region of quiet operations, of new blocks, and of a tail that waits for them: walked in the order of the text, whatever order is drawn. For any program. -/
namespace Go.Proofs.YtlaldfkeaalnhaaGreatDoor
set_option linter.all false
open Go.RowKit

/-- what an operation of a region is: quiet; pure (it may also come behind the tail); a new block; one of the tail -/
inductive Mark where
  | q
  | p
  | a (cs : List Value) (t : TypeId)
  | t
def Mark.isQ : Mark → Bool
  | .q => true
  | .p => true
  | _ => false
def Mark.isA : Mark → Bool
  | .a .. => true
  | _ => false
def Mark.isT : Mark → Bool
  | .t => true
  | _ => false
theorem Mark.trio (m : Mark) : (m.isQ = true ∧ m.isA = false ∧ m.isT = false) ∨ (m.isQ = false ∧ m.isA = true ∧ m.isT = false) ∨ (m.isQ = false ∧ m.isA = false ∧ m.isT = true) := by
  cases m <;> simp [Mark.isQ, Mark.isA, Mark.isT]

/-- i waits for j, straight or through others -/
def deps (ops : Array Oper) : Nat → Nat → Nat → Bool
  | 0, _, _ => false
  | f + 1, i, j => waits ops i j || (List.range ops.size).any fun k => waits ops i k && deps ops f k j
section
variable {P : Program} {ops : Array Oper} {mk : Nat → Mark}
theorem deps_closed {L : Nat → Bool} (hcl : ∀ i j, L i = true → waits ops i j = true → L j = true) : ∀ f i j, (∀ k, waits ops i k = true → L k = true) → deps ops f i j = true → L j = true
  | 0, _, _, _, h => by cases h
  | f + 1, i, j, hi, h => by
    unfold deps at h
    rw [Bool.or_eq_true] at h
    rcases h with h | h
    · exact hi j h
    · rw [List.any_eq_true] at h
      obtain ⟨k, _, hk⟩ := h
      rw [Bool.and_eq_true] at hk
      exact deps_closed hcl f k j (fun x hx => hcl k x (hi k hk.1) hx) hk.2

theorem frames_agree2 (hd : dstApart ops = true) (hl : looksOk ops = true) {vs us : Nat → Value} {L M : Nat → Bool} {a0 b0 : Act} (h0 : a0.tmps = b0.tmps) {i : Nat} {o : Oper} (hi : ops[i]? = some o)
    (h1 : ∀ j, j < i → waits ops i j = true → L j = true ∧ M j = true ∧ vs j = us j) (h2 : ∀ j, i < j → waits ops j i = true → L j = false ∧ M j = false)
    {t : Tmp} (ht : t ∈ o.looksAt ops) : (frameOf ops vs L a0 ops.size).tmps[t]? = (frameOf ops us M b0 ops.size).tmps[t]? := by
  have li : i < ops.size := (Array.getElem?_eq_some_iff.1 hi).1
  unfold looksOk at hl
  rw [List.all_eq_true] at hl
  have hli := hl i (by simpa using li)
  rw [hi] at hli
  simp only [Bool.and_eq_true] at hli
  have hlt := hli.2
  rw [List.all_eq_true] at hlt
  have hT := hlt t ht
  rw [List.all_eq_true] at hT
  by_cases hw : ∃ j, j < ops.size ∧ (ops[j]?).bind (·.dst) = some t
  · obtain ⟨j, lj, hj⟩ := hw
    have hJ := hT j (by simpa using lj)
    rw [hj] at hJ
    simp only [bne_self_eq_false, Bool.false_or, Bool.or_eq_true, Bool.and_eq_true, decide_eq_true_eq] at hJ
    rcases hJ with ⟨hji, hwt⟩ | ⟨hij, hwt⟩
    · obtain ⟨a, b, c⟩ := h1 j hji hwt
      rw [frame_at hd hj a _ lj, frame_at hd hj b _ lj, h0, c]
    · obtain ⟨a, b⟩ := h2 j hij hwt
      rw [frame_other _ (fun k _ hk e => by
          by_cases hkj : k = j
          · subst hkj; rw [a] at hk; cases hk
          · exact dst_spec hd (fun e => hkj e.symm) hj e),
        frame_other _ (fun k _ hk e => by
          by_cases hkj : k = j
          · subst hkj; rw [b] at hk; cases hk
          · exact dst_spec hd (fun e => hkj e.symm) hj e), h0]
  · have hno : ∀ k, k < ops.size → (ops[k]?).bind (·.dst) ≠ some t := fun k hk e => hw ⟨k, hk, e⟩
    rw [frame_other _ (fun k hk _ => hno k hk), frame_other _ (fun k hk _ => hno k hk), h0]

theorem frame_defers {vs : Nat → Value} {L : Nat → Bool} {a : Act} {ds : List Deferred} : ∀ n, frameOf ops vs L { a with defers := ds } n = { frameOf ops vs L a n with defers := ds }
  | 0 => rfl
  | n + 1 => by
    unfold frameOf
    rw [frame_defers n]
    split
    · cases (ops[n]?).bind (·.dst) <;> rfl
    · rfl

theorem wp_transfer {o : Oper} {a b : Act} {w : World} {K K' : Act → World → Prop} {QN Q : Exit → Act → World → Prop} (he : execOp b.eval o = execOp a.eval o) (hQ : ∀ e a w, QN e a w → e = .normal)
    (hk : ∀ v w', K (a.put o.dst v) w' → K' (b.put o.dst v) w') (hd : ∀ d w', K ({ a with defers := d :: a.defers }.put o.dst undef) w' → K' ({ b with defers := d :: b.defers }.put o.dst undef) w')
    (h : o.wp P a w K QN) : o.wp P b w K' Q := by
  unfold Oper.wp at *
  rw [he]
  revert h
  generalize (execOp a.eval o).run P w = r
  intro h
  match r, h with
  | .ok (.value v) w', h => exact hk v w' h
  | .ok .skip w', h => exact hk _ w' h
  | .ok (.defer d) w', h => exact hd d w' h
  | .ok (.enter f args) w', h =>
    refine Calls.mono (R := fun | .returned v, w'' => K (a.put o.dst v) w'' | .panicked chain, w'' => QN (.panic chain) a w'' | .outgrown, _ => LetsOut QN) h fun e w'' hx => ?_
    cases e with
    | returned v => exact hk v w'' hx
    | panicked c => cases hQ _ _ _ hx
    | outgrown => obtain ⟨_, _, hx⟩ := hx; cases hQ _ _ _ hx
  | .ok (.row row args) w', h => exact Rows.mono (R := fun v w'' => K (a.put o.dst v) w'') h fun v w'' hx => hk v w'' hx
  | .halt (.panic v) w', h => cases hQ _ _ _ h

theorem all_listed (hl : looksOk ops = true) {listed : Array Bool} (hs : listed.size = ops.size) (hr : Region.ready .any ops listed = []) : ∀ i, i < ops.size → listed.getD i false = true := by
  intro i
  induction i using Nat.strongRecOn with
  | _ i ih =>
    intro hi
    cases hb : listed.getD i false with
    | true => rfl
    | false =>
      have ho : ops[i]? = some ops[i] := Array.getElem?_eq_getElem hi
      have hmem : i ∈ Region.ready .any ops listed := mem_ready.2 ⟨by
        have hli : i < listed.size := by omega
        simpa [Array.getD_eq_getD_getElem?, hli] using hb, _, ho, fun e he hbd => by
          have hl' := hl
          unfold looksOk at hl'
          rw [List.all_eq_true] at hl'
          have h1 := hl' i (by simpa using hi)
          rw [ho] at h1
          simp only [Bool.and_eq_true] at h1
          have h2 := h1.1.2
          have h3 := (Array.all_eq_true_iff_forall_mem.1 h2) e he
          rw [hbd] at h3
          simp at h3
          exact ih e.on h3 (by omega)⟩
      rw [hr] at hmem
      cases hmem
end
end Go.Proofs.YtlaldfkeaalnhaaGreatDoor

/- A region of quiet operations, of new blocks, and of a tail: the two phases. For any program. -/
namespace Go.Proofs.YtlaldfkeaalnhaaGreatDoor
set_option linter.all false
open Go.RowKit
section
variable {P : Program} {ops : Array Oper} {mk : Nat → Mark}

theorem set_getD {listed : Array Bool} {i : Nat} (h : i < listed.size) (j : Nat) : (listed.setIfInBounds i true).getD j false = (j == i || listed.getD j false) := by
  by_cases e : j = i
  · subst e
    simp [Array.getD_eq_getD_getElem?, h]
  · rw [getD_set_ne false (fun h => e h.symm)]
    have : (j == i) = false := by simpa using e
    rw [this, Bool.false_or]
theorem set_count {listed : Array Bool} {i n f : Nat} (hs : i < listed.size) (hi : i < n) (h0 : listed.getD i true = false) (hn : ((List.range n).filter fun j => !listed.getD j true).length ≤ f + 1) :
    ((List.range n).filter fun j => !(listed.setIfInBounds i true).getD j true).length ≤ f := by
  have hlen : ((List.range n).filter fun j => !(listed.setIfInBounds i true).getD j true).length < ((List.range n).filter fun j => !listed.getD j true).length := by
    refine (filter_less (p := fun j => !listed.getD j true) (q := fun j => !(listed.setIfInBounds i true).getD j true) (i := i) (by simp only [h0]; rfl) (by simp [Array.getD_eq_getD_getElem?, hs]) _ ?_).2 (by simpa using hi)
    intro j hj hj'
    by_cases e : i = j
    · subst e
      simp [Array.getD_eq_getD_getElem?, hs] at hj'
    · rw [getD_set_ne true e] at hj'; exact hj'
  omega
theorem set_closed {listed : Array Bool} {i : Nat} {o : Oper} (hs : i < listed.size) (ho : ops[i]? = some o) (hall : ∀ e ∈ o.after, Region.binds .any e = true → listed.getD e.on false = true)
    (hcld : ∀ i j, listed.getD i false = true → waits ops i j = true → listed.getD j false = true) : ∀ k j, (listed.setIfInBounds i true).getD k false = true → waits ops k j = true → (listed.setIfInBounds i true).getD j false = true := by
  intro k j hk hw
  rw [set_getD hs] at hk ⊢
  by_cases e : k = i
  · subst e
    obtain ⟨e, he, hb, rfl⟩ := (waits_spec ho).1 hw
    rw [hall e he hb]; simp
  · have : (k == i) = false := by simpa using e
    rw [this, Bool.false_or] at hk
    rw [hcld k j hk hw]; simp

theorem waits_lt {i j : Nat} (h : waits ops i j = true) : i < ops.size := by
  rcases Nat.lt_or_ge i ops.size with h' | h'
  · exact h'
  · simp [waits, Array.getElem?_eq_none h'] at h
theorem waits_on {i j : Nat} (hl : looksOk ops = true) (h : waits ops i j = true) : j < i := by
  have hi := waits_lt h
  have ho : ops[i]? = some ops[i] := Array.getElem?_eq_getElem hi
  obtain ⟨e, he, hb, rfl⟩ := (waits_spec ho).1 h
  unfold looksOk at hl
  rw [List.all_eq_true] at hl
  have h1 := hl i (by simpa using hi)
  rw [ho] at h1
  simp only [Bool.and_eq_true] at h1
  have h3 := (Array.all_eq_true_iff_forall_mem.1 h1.1.2) e he
  rw [hb] at h3
  simpa using h3
/-- the quiet ones, ahead of operation i -/
def frameQ (ops : Array Oper) (mk : Nat → Mark) (vs : Nat → Value) (a0 : Act) (i : Nat) : Act := frameOf ops vs (fun j => decide (j < i) && (mk j).isQ) a0 ops.size
def PureOK (P : Program) (o : Oper) (a : Act) (v : Value) : Prop := ∀ w, (execOp a.eval o).run P w = .ok (.value v) w

theorem sel_of (hl : looksOk ops = true) {i : Nat} {o : Oper} (ho : ops[i]? = some o) : isSelect o = false := by
  unfold looksOk at hl
  rw [List.all_eq_true] at hl
  have h1 := hl i (by simpa using (Array.getElem?_eq_some_iff.1 ho).1)
  rw [ho] at h1
  simp only [Bool.and_eq_true, Bool.not_eq_true'] at h1
  exact h1.1.1
theorem exec_agree (hl : looksOk ops = true) {i : Nat} {o : Oper} (ho : ops[i]? = some o) {a b : Act} (h : ∀ t ∈ o.looksAt ops, a.tmps[t]? = b.tmps[t]?) : execOp a.eval o = execOp b.eval o :=
  execOp_congr o (fun cs c e => by have := sel_of hl ho; simp [isSelect, e] at this) (eval_agree h)

theorem frame_vsL {vs us : Nat → Value} {L : Nat → Bool} {a0 : Act} (h : ∀ i, L i = true → vs i = us i) : ∀ n, frameOf ops vs L a0 n = frameOf ops us L a0 n
  | 0 => rfl
  | n + 1 => by
    unfold frameOf
    rw [frame_vsL h n]
    split
    · rename_i hl
      rw [h n hl]
    · rfl
theorem filter_head {p q : Nat → Bool} {i n : Nat} (hi : i < n) (h1 : ∀ j, j < i → p j = false) (h2 : p i = true) (h3 : ∀ j, q j = (p j && j != i)) : (List.range n).filter p = i :: (List.range n).filter q := by
  have hr : List.range n = List.range i ++ i :: List.range' (i + 1) (n - i - 1) := by
    rw [List.range_eq_range', List.range_eq_range', ← List.range'_succ, show n - i - 1 + 1 = n - i by omega]
    have := List.range'_append (s := 0) (m := i) (n := n - i) (step := 1)
    simp only [Nat.one_mul, Nat.zero_add] at this
    rw [this, show i + (n - i) = n by omega]
  rw [hr, List.filter_append, List.filter_append, List.filter_cons, List.filter_cons, if_pos h2, if_neg (by rw [h3]; simp)]
  have e1 : (List.range i).filter p = [] := List.filter_eq_nil_iff.2 fun j hj => by rw [h1 j (by simpa using hj)]; simp
  have e2 : (List.range i).filter q = [] := List.filter_eq_nil_iff.2 fun j hj => by rw [h3, h1 j (by simpa using hj)]; simp
  rw [e1, e2]
  simp only [List.nil_append, List.cons.injEq, true_and]
  refine List.filter_congr fun j hj => ?_
  rw [h3]
  have : i + 1 ≤ j := (List.mem_range'_1.1 hj).1
  have : (j != i) = true := by simp; omega
  rw [this, Bool.and_true]

end
end Go.Proofs.YtlaldfkeaalnhaaGreatDoor

/- A region of quiet operations, of new blocks, and of a tail: the theorem. For any program. -/
namespace Go.Proofs.YtlaldfkeaalnhaaGreatDoor
set_option linter.all false
open Go.RowKit
section
variable {P : Program} {ops : Array Oper}

def mkOf (ms : List Mark) (i : Nat) : Mark := (ms[i]?).getD .q
def OKat (P : Program) (ops : Array Oper) (F : World → Prop) (m : Mark) (o : Oper) (a : Act) (v : Value) : Prop := match m with
  | .q => (Region.wanted o (yielded ops a.tmps) = true ∧ StepOK P F o a v) ∨ (Region.wanted o (yielded ops a.tmps) = false ∧ v = undef)
  | .p => (Region.wanted o (yielded ops a.tmps) = true ∧ PureOK P o a v) ∨ (Region.wanted o (yielded ops a.tmps) = false ∧ v = undef)
  | .a cs t => ∀ w : World, (execOp a.eval o).run P w = .ok (.value (.pointer (some ⟨w.heap.size, 0, none⟩))) (w.alloc (.cells cs.toArray t))
  | .t => True
/-- the walk in the order of the text, over all but new blocks and the tail -/
def Walk (P : Program) (ops : Array Oper) (F : World → Prop) (K : Act → Prop) : List Mark → List Oper → Act → Prop
  | _, [], a => K a
  | [], _ :: _, _ => False
  | m :: ms, o :: rest, a => ∃ v, OKat P ops F m o a v ∧ Walk P ops F K ms rest (if m.isQ then a.put o.dst v else a)

variable {F : World → Prop} {K : Act → Prop} {o : Oper} {rest : List Oper} {a : Act} {ms : List Mark} {v : Value}
theorem Walk.done (h : K a) : Walk P ops F K ms [] a := by cases ms <;> exact h
theorem Walk.here {l : List Oper} (h : Walk P ops F K ms l a) : Walk P ops F K ms l a := h
theorem Walk.skipQ (hw : Region.wanted o (yielded ops a.tmps) = false) (h : Walk P ops F K ms rest (a.put o.dst undef)) : Walk P ops F K (.q :: ms) (o :: rest) a := ⟨undef, .inr ⟨hw, rfl⟩, h⟩
theorem Walk.val (hw : Region.wanted o (yielded ops a.tmps) = true) (hr : ∀ w, F w → (execOp a.eval o).run P w = .ok (.value v) w) (h : Walk P ops F K ms rest (a.put o.dst v)) : Walk P ops F K (.q :: ms) (o :: rest) a := ⟨v, .inl ⟨hw, .inl hr⟩, h⟩
theorem Walk.pure (hw : Region.wanted o (yielded ops a.tmps) = true) (hr : ∀ w, (execOp a.eval o).run P w = .ok (.value v) w) (h : Walk P ops F K ms rest (a.put o.dst v)) : Walk P ops F K (.p :: ms) (o :: rest) a := ⟨v, .inl ⟨hw, hr⟩, h⟩
theorem Walk.call {f : FuncId} {args : Array Value} (hw : Region.wanted o (yielded ops a.tmps) = true) (hr : ∀ w, F w → (execOp a.eval o).run P w = .ok (.enter f args) w)
    (hc : ∀ w, F w → Calls P f args w fun e w' => e = .returned v ∧ Ext w w') (h : Walk P ops F K ms rest (a.put o.dst v)) : Walk P ops F K (.q :: ms) (o :: rest) a := ⟨v, .inl ⟨hw, .inr ⟨f, args, hr, hc⟩⟩, h⟩
theorem Walk.blk {cs : List Value} {t : TypeId} (hr : ∀ w : World, (execOp a.eval o).run P w = .ok (.value (.pointer (some ⟨w.heap.size, 0, none⟩))) (w.alloc (.cells cs.toArray t))) (h : Walk P ops F K ms rest a) : Walk P ops F K (.a cs t :: ms) (o :: rest) a := ⟨undef, hr, h⟩
theorem Walk.tail (h : Walk P ops F K ms rest a) : Walk P ops F K (.t :: ms) (o :: rest) a := ⟨undef, trivial, h⟩
theorem Walk.guardT {j : Nat} {b : Bool} {d : Tmp} (_ : o.guard = some (j, true)) (_ : (ops[j]?).bind (·.dst) = some d) (_ : a.tmps[d]? = some (.bool b)) (h1 : b = true → Walk P ops F K ms (o :: rest) a) (h2 : b = false → Walk P ops F K ms (o :: rest) a) : Walk P ops F K ms (o :: rest) a := by
  cases hb : b
  · exact h2 hb
  · exact h1 hb
theorem Walk.guardF {j : Nat} {b : Bool} {d : Tmp} (_ : o.guard = some (j, false)) (_ : (ops[j]?).bind (·.dst) = some d) (_ : a.tmps[d]? = some (.bool b)) (h1 : b = false → Walk P ops F K ms (o :: rest) a) (h2 : b = true → Walk P ops F K ms (o :: rest) a) : Walk P ops F K ms (o :: rest) a := by
  cases hb : b
  · exact h1 hb
  · exact h2 hb

theorem frameQ_step {mk : Nat → Mark} (hd : dstApart ops = true) {us : Nat → Value} {a0 : Act} {n : Nat} {o : Oper} (ho : ops[n]? = some o) (v : Value) (hQ : (mk n).isQ = true) :
    frameQ ops mk (fun j => if j = n then v else us j) a0 (n + 1) = (frameQ ops mk us a0 n).put o.dst v := by
  have hn : n < ops.size := (Array.getElem?_eq_some_iff.1 ho).1
  have hm := frame_more hd (vs := fun j => if j = n then v else us j) (L := fun j => decide (j < n) && (mk j).isQ) (a0 := a0) (i := n) (by simp) ops.size hn
  rw [frame_vsL (vs := fun j => if j = n then v else us j) (us := us) (L := fun j => decide (j < n) && (mk j).isQ) (fun j hj => by
    simp only [Bool.and_eq_true, decide_eq_true_eq] at hj
    exact if_neg (by omega))] at hm
  unfold frameQ
  rw [show (ops[n]?).bind (·.dst) = o.dst by rw [ho]; rfl, if_pos rfl] at hm
  rw [← hm]
  refine frame_congr _ fun j _ => ?_
  by_cases e : j = n
  · subst e; simp [hQ]
  · have h1 : (j == n) = false := by simpa using e
    have h2 : decide (j < n + 1) = decide (j < n) := by simp; omega
    rw [h1, h2, Bool.false_or]
theorem frameQ_stay {mk : Nat → Mark} {us : Nat → Value} {a0 : Act} {n : Nat} (hQ : (mk n).isQ = false) : frameQ ops mk us a0 (n + 1) = frameQ ops mk us a0 n := by
  unfold frameQ
  refine frame_congr _ fun j _ => ?_
  by_cases e : j = n
  · subst e; simp [hQ]
  · have h2 : decide (j < n + 1) = decide (j < n) := by simp; omega
    rw [h2]
theorem frameQ_vs {mk : Nat → Mark} {us vs : Nat → Value} {a0 : Act} {n : Nat} (h : ∀ j, j < n → vs j = us j) : frameQ ops mk vs a0 n = frameQ ops mk us a0 n :=
  frame_vsL (fun j hj => h j (by simp only [Bool.and_eq_true, decide_eq_true_eq] at hj; exact hj.1)) _

theorem Walk.values {mk : Nat → Mark} (hd : dstApart ops = true) {a0 : Act} : ∀ (rest : List Oper) (ms : List Mark) (n : Nat) (us : Nat → Value), (∀ j, rest[j]? = ops[n + j]?) → n + rest.length = ops.size → (∀ j m, ms[j]? = some m → m = mk (n + j)) → Walk P ops F K ms rest (frameQ ops mk us a0 n) →
    ∃ vs : Nat → Value, (∀ j, j < n → vs j = us j) ∧ K (frameQ ops mk vs a0 ops.size) ∧ ∀ i o, n ≤ i → ops[i]? = some o → OKat P ops F (mk i) o (frameQ ops mk vs a0 i) (vs i)
  | [], ms, n, us, _, hn, _, h => ⟨us, fun _ _ => rfl, by rw [← hn]; cases ms <;> exact h, fun i o hi ho => by
      have := (Array.getElem?_eq_some_iff.1 ho).1
      simp at hn; omega⟩
  | _ :: _, [], _, _, _, _, _, h => h.elim
  | o :: rest, m :: ms, n, us, hr, hn, hms, h => by
    have ho : ops[n]? = some o := by simpa using (hr 0).symm
    have hr' : ∀ j, rest[j]? = ops[n + 1 + j]? := fun j => by
      have := hr (j + 1)
      simpa [Nat.add_assoc, Nat.add_comm 1 j] using this
    have hm : m = mk n := hms 0 m (by simp)
    have hms' : ∀ j m', ms[j]? = some m' → m' = mk (n + 1 + j) := fun j m' hj => by
      have := hms (j + 1) m' (by simpa using hj)
      rw [this]; congr 1; omega
    obtain ⟨v, hv, h⟩ := h
    have hf : frameQ ops mk (fun j => if j = n then v else us j) a0 (n + 1) = (if m.isQ then (frameQ ops mk us a0 n).put o.dst v else frameQ ops mk us a0 n) := by
      cases hQ : m.isQ with
      | true => rw [if_pos rfl]; exact frameQ_step hd ho v (by rw [← hm]; exact hQ)
      | false =>
        rw [if_neg (by simp), frameQ_stay (by rw [← hm]; exact hQ)]
        exact frameQ_vs fun j hj => if_neg (by omega)
    obtain ⟨vs, h1, h2, h3⟩ := Walk.values hd rest ms (n + 1) (fun j => if j = n then v else us j) hr' (by simp at hn; omega) hms' (by rw [hf]; exact h)
    refine ⟨vs, fun j hj => by rw [h1 j (by omega), if_neg (by omega)], h2, fun i o' hi ho' => ?_⟩
    by_cases e : i = n
    · subst e
      obtain rfl : o = o' := Option.some.inj (ho.symm.trans ho')
      rw [frameQ_vs (us := us) fun j hj => by rw [h1 j (by omega), if_neg (by omega)], h1 i (by omega), if_pos rfl, ← hm]
      exact hv
    · exact h3 i o' (by omega) ho'

/-- the new blocks that have been made -/
structure Made (mk : Nat → Mark) (L : Nat → Bool) (vs : Nat → Value) (base : Nat) (w : World) : Prop where
  at_ : ∀ i cs t, mk i = .a cs t → L i = true → ∃ b, vs i = .pointer (some ⟨b, 0, none⟩) ∧ base ≤ b ∧ w.heap[b]? = some (.cells cs.toArray t (0, 0))
  ne : ∀ i j, (mk i).isA = true → (mk j).isA = true → L i = true → L j = true → i ≠ j → vs i ≠ vs j
theorem Made.ext {mk : Nat → Mark} {L : Nat → Bool} {vs : Nat → Value} {base : Nat} {w w' : World} (h : Made mk L vs base w) (hx : Ext w w') : Made mk L vs base w' :=
  ⟨fun i cs t hi hl => by obtain ⟨b, h1, h2, h3⟩ := h.at_ i cs t hi hl; exact ⟨b, h1, h2, heap_keeps hx h3⟩, h.ne⟩
theorem Made.congr {mk : Nat → Mark} {L M : Nat → Bool} {vs us : Nat → Value} {base : Nat} {w : World} (h : Made mk L vs base w) (hL : ∀ i, (mk i).isA = true → M i = true → L i = true ∧ us i = vs i) : Made mk M us base w :=
  ⟨fun i cs t hi hl => by
    obtain ⟨h1, h2⟩ := hL i (by rw [hi]; rfl) hl
    rw [h2]; exact h.at_ i cs t hi h1, fun i j hi hj li lj hij => by
    obtain ⟨h1, h2⟩ := hL i hi li
    obtain ⟨h3, h4⟩ := hL j hj lj
    rw [h2, h4]; exact h.ne i j hi hj h1 h3 hij⟩

end
end Go.Proofs.YtlaldfkeaalnhaaGreatDoor

/- A region of quiet operations and of a chain: the operations of the chain come one behind the other, whatever order is drawn, and may turn what the call owns; the quiet ones come when they like. For any program. -/
namespace Go.Proofs.YtlaldfkeaalnhaaGreatDoor
set_option linter.all false
open Go.RowKit
section
variable {P : Program} {ops : Array Oper} {F : World → Prop} {QN : Act → World → Prop}

/-- who is not of the chain waits for quiet ones alone; the chain's are in a row -/
def chainOk (ops : Array Oper) (mk : Nat → Mark) : Bool :=
  fixedOk ops && (List.range ops.size).all fun i => ((mk i).isQ || (mk i).isT) && (List.range ops.size).all fun j =>
    if (mk i).isT then !((mk j).isT && decide (j < i)) || deps ops 5 i j else !(waits ops i j && (mk j).isT)

/-- the walk along the chain: what holds of the world ahead of each of its operations is kept by whatever leaves all as it was -/
def Chain (P : Program) (ops : Array Oper) (F : World → Prop) (QN : Act → World → Prop) : List Oper → Act → (World → Prop) → Prop
  | [], a, C => ∀ w, C w → QN a w
  | o :: rest, a, C =>
    (Region.wanted o (yielded ops a.tmps) = true ∧ ∀ w, C w → o.wp P a w (fun a' w' => ∃ C' : World → Prop, C' w' ∧ (∀ w w', C' w → Ext w w' → C' w') ∧ (∀ w, C' w → F w) ∧ Chain P ops F QN rest a' C') (fun _ _ _ => False)) ∨
    (Region.wanted o (yielded ops a.tmps) = false ∧ Chain P ops F QN rest (a.put o.dst undef) C)

theorem Chain.eq_cons {o : Oper} {rest : List Oper} {a : Act} {C : World → Prop} : Chain P ops F QN (o :: rest) a C = ((Region.wanted o (yielded ops a.tmps) = true ∧ ∀ w, C w → o.wp P a w (fun a' w' => ∃ C' : World → Prop, C' w' ∧ (∀ w w', C' w → Ext w w' → C' w') ∧ (∀ w, C' w → F w) ∧ Chain P ops F QN rest a' C') (fun _ _ _ => False)) ∨
    (Region.wanted o (yielded ops a.tmps) = false ∧ Chain P ops F QN rest (a.put o.dst undef) C)) := rfl

theorem phaseC {mk : Nat → Mark} {Q : Exit → Act → World → Prop} {a00 : Act} {vsQ : Nat → Value} (hok : chainOk ops mk = true) (hQN : ∀ a w, QN a w → Q .normal a w)
    (hq : ∀ i o, ops[i]? = some o → (mk i).isT = false → (Region.wanted o (yielded ops (frameQ ops mk vsQ a00 i).tmps) = true ∧ StepOK P F o (frameQ ops mk vsQ a00 i) (vsQ i)) ∨ (Region.wanted o (yielded ops (frameQ ops mk vsQ a00 i).tmps) = false ∧ vsQ i = undef)) :
    ∀ (fuel : Nat) (listed : Array Bool) (vs : Nat → Value) (a0 : Act) (w : World) (rest : List Nat) (C : World → Prop), a0.tmps = a00.tmps → listed.size = ops.size → ((List.range ops.size).filter fun j => !listed.getD j true).length ≤ fuel →
      (∀ i j, listed.getD i false = true → waits ops i j = true → listed.getD j false = true) →
      (∀ i, (mk i).isT = false → vs i = vsQ i) →
      rest = (List.range ops.size).filter (fun i => (mk i).isT && !listed.getD i false) → C w → (∀ w w', C w → Ext w w' → C w') → (∀ w, C w → F w) →
      Chain P ops F QN (rest.filterMap (ops[·]?)) (frameOf ops vs (fun j => !(mk j).isT || listed.getD j false) a0 ops.size) C →
      wpAny P .any ops Q fuel listed (frameOf ops vs (fun j => listed.getD j false) a0 ops.size) w := by
  simp only [chainOk, Bool.and_eq_true] at hok
  obtain ⟨hfx, hch⟩ := hok
  have hd : dstApart ops = true := by simp only [fixedOk, Bool.and_eq_true] at hfx; exact hfx.1
  have hl : looksOk ops = true := by simp only [fixedOk, Bool.and_eq_true] at hfx; exact hfx.2
  rw [List.all_eq_true] at hch
  have hchain : ∀ i j, i < ops.size → (mk i).isT = true → (mk j).isT = true → j < i → deps ops 5 i j = true := fun i j hi hT hTj hji => by
    have h := hch i (by simpa using hi)
    rw [Bool.and_eq_true] at h
    have h2 := List.all_eq_true.1 h.2 j (by simpa using Nat.lt_trans hji hi)
    rw [hT, hTj] at h2
    simpa [hji] using h2
  have hquiet : ∀ i j, (mk i).isT = false → waits ops i j = true → (mk j).isT = false := fun i j hT hw => by
    have hi := waits_lt hw
    have h := hch i (by simpa using hi)
    rw [Bool.and_eq_true] at h
    have h2 := List.all_eq_true.1 h.2 j (by simpa using Nat.lt_trans (waits_on hl hw) hi)
    rw [hT, hw] at h2
    simpa using h2
  have hQT : ∀ i, i < ops.size → (mk i).isQ = !(mk i).isT := fun i hi => by
    have h := hch i (by simpa using hi)
    rw [Bool.and_eq_true] at h
    rcases (mk i).trio with ⟨a, b, c⟩ | ⟨a, b, c⟩ | ⟨a, b, c⟩ <;> simp [a, c] at h ⊢
  have fin : ∀ (listed : Array Bool) (vs : Nat → Value) (a0 : Act) (w : World) (rest : List Nat) (C : World → Prop), listed.size = ops.size → rest = (List.range ops.size).filter (fun i => (mk i).isT && !listed.getD i false) → C w →
      Chain P ops F QN (rest.filterMap (ops[·]?)) (frameOf ops vs (fun j => !(mk j).isT || listed.getD j false) a0 ops.size) C → Region.ready .any ops listed = [] → Q .normal (frameOf ops vs (fun j => listed.getD j false) a0 ops.size) w := by
    intro listed vs a0 w rest C hs hrest hC hw hr
    have hall := all_listed hl hs hr
    have : rest = [] := by
      rw [hrest, List.filter_eq_nil_iff]
      intro i hi
      simp [hall i (by simpa using hi)]
    subst this
    rw [frame_congr (M := fun j => !(mk j).isT || listed.getD j false) ops.size (fun j hj => by simp [hall j hj])]
    exact hQN _ _ (hw w hC)
  intro fuel
  induction fuel with
  | zero =>
    intro listed vs a0 w rest C _ hs hn _ _ hrest hC _ _ hw
    have hr : Region.ready .any ops listed = [] := by
      rw [List.eq_nil_iff_forall_not_mem]
      intro i hi
      obtain ⟨h0, o, ho, _⟩ := mem_ready.1 hi
      have : i ∈ (List.range ops.size).filter fun j => !listed.getD j true := List.mem_filter.2 ⟨by simpa using (Array.getElem?_eq_some_iff.1 ho).1, by simp [h0]⟩
      rw [List.eq_nil_of_length_eq_zero (Nat.le_zero.1 hn)] at this
      cases this
    exact ⟨hr, fin listed vs a0 w rest C hs hrest hC hw hr⟩
  | succ fuel ih =>
    intro listed vs a0 w rest C h00 hs hn hcld hvs hrest hC hCx hCF hw
    refine ⟨fin listed vs a0 w rest C hs hrest hC hw, fun i hi => ?_⟩
    obtain ⟨h0, o, ho, hall⟩ := mem_ready.1 hi
    have hi' : i < ops.size := (Array.getElem?_eq_some_iff.1 ho).1
    have hsi : i < listed.size := by omega
    have hLi : listed.getD i false = false := by simpa [Array.getD_eq_getD_getElem?, hsi] using h0
    have hwl : ∀ j, waits ops i j = true → listed.getD j false = true := fun j hj => by
      obtain ⟨e, he, hb, rfl⟩ := (waits_spec ho).1 hj
      exact hall e he hb
    have hlw : ∀ j, waits ops j i = true → listed.getD j false = false := fun j hj => by
      cases hb : listed.getD j false with
      | false => rfl
      | true => rw [hcld j i hb hj] at hLi; cases hLi
    have hset := set_getD hsi
    cases hT : (mk i).isT with
    | false =>
      have hput : (ops[i]?).bind (·.dst) = o.dst := by rw [ho]; rfl
      have hwQ : vs i = vsQ i := hvs i hT
      refine wpOp_fixed (b := frameQ ops mk vsQ a00 i) (v := vsQ i) ho (sel_of hl ho) ?_ (hCF w hC) (hq i o ho hT) ?_
      · intro t ht
        unfold frameQ
        refine frames_agree2 hd hl h00 ho (fun j hj hw => ⟨hwl j hw, ?_, ?_⟩) (fun j hj hw => ⟨hlw j hw, by simp; omega⟩) ht
        · simp [hj, hQT j (Nat.lt_trans hj hi'), hquiet i j hT hw]
        · exact hvs j (hquiet i j hT hw)
      · intro w' hx
        have hmore := frame_more hd (vs := vs) (L := fun j => listed.getD j false) (a0 := a0) hLi ops.size hi'
        rw [hput, hwQ] at hmore
        rw [← hmore, frame_congr (M := fun j => (listed.setIfInBounds i true).getD j false) ops.size (fun j _ => (hset j).symm)]
        refine ih _ vs a0 w' rest C h00 (by simpa using hs) (set_count hsi hi' h0 hn) (set_closed hsi ho hall hcld) hvs ?_ (hCx w w' hC hx) hCx hCF ?_
        · rw [hrest]
          refine List.filter_congr fun j _ => ?_
          rw [hset]
          by_cases e : j = i
          · subst e; simp [hT]
          · have : (j == i) = false := by simpa using e
            rw [this, Bool.false_or]
        · rw [frame_congr (M := fun j => !(mk j).isT || listed.getD j false) ops.size (fun j _ => by
            rw [hset]
            by_cases e : j = i
            · subst e; simp [hT]
            · have : (j == i) = false := by simpa using e
              rw [this, Bool.false_or])]
          exact hw
    | true =>
      have hput : (ops[i]?).bind (·.dst) = o.dst := by rw [ho]; rfl
      have hnQ : ∀ j, (mk j).isT = false → j ≠ i := fun j hj e => by subst e; rw [hT] at hj; cases hj
      have hhead : rest = i :: (List.range ops.size).filter (fun j => (mk j).isT && !(listed.setIfInBounds i true).getD j false) := by
        rw [hrest]
        refine filter_head hi' (fun j hj => ?_) (by simp [hT, hLi]) (fun j => ?_)
        · cases hTj : (mk j).isT with
          | false => simp
          | true => rw [deps_closed hcld 5 i j hwl (hchain i j hi' hT hTj hj)]; simp
        · rw [hset]
          by_cases e : j = i
          · subst e; simp
          · have : (j == i) = false := by simpa using e
            have h' : (j != i) = true := by simpa using e
            rw [this, h', Bool.false_or, Bool.and_true]
      rw [hhead, List.filterMap_cons, ho] at hw
      have hLf : ∀ j, (!(mk j).isT || (listed.setIfInBounds i true).getD j false) = (j == i || (!(mk j).isT || listed.getD j false)) := fun j => by
        rw [hset]
        by_cases e : j = i
        · subst e; simp
        · have : (j == i) = false := by simpa using e
          rw [this]; simp
      have hgo : ∀ (v : Value) (w' : World) (ds : List Deferred) (C' : World → Prop), C' w' → (∀ w w', C' w → Ext w w' → C' w') → (∀ w, C' w → F w) → Chain P ops F QN ((List.filter (fun j => (mk j).isT && !(listed.setIfInBounds i true).getD j false) (List.range ops.size)).filterMap (ops[·]?)) ((frameOf ops vs (fun j => !(mk j).isT || listed.getD j false) { a0 with defers := ds } ops.size).put o.dst v) C' →
          wpAny P .any ops Q fuel (listed.setIfInBounds i true) ((frameOf ops vs (fun j => listed.getD j false) { a0 with defers := ds } ops.size).put o.dst v) w' := by
        intro v w' ds C' hC' hCx' hCF' hw'
        obtain ⟨us, hus⟩ : ∃ us : Nat → Value, us = fun j => if j = i then v else vs j := ⟨_, rfl⟩
        have hui : us i = v := by rw [hus]; simp
        have huo : ∀ j, j ≠ i → us j = vs j := fun j hj => by rw [hus]; simp [hj]
        have m1 := frame_more hd (vs := us) (L := fun j => listed.getD j false) (a0 := { a0 with defers := ds }) hLi ops.size hi'
        have m2 := frame_more hd (vs := us) (L := fun j => !(mk j).isT || listed.getD j false) (a0 := { a0 with defers := ds }) (i := i) (by rw [hT, hLi]; rfl) ops.size hi'
        rw [hput, hui, frame_vsL (us := vs) (L := fun j => listed.getD j false) (fun j hj => huo j (fun e => by have hj : listed.getD j false = true := hj; rw [e, hLi] at hj; cases hj))] at m1
        rw [hput, hui, frame_vsL (us := vs) (L := fun j => !(mk j).isT || listed.getD j false) (fun j hj => huo j (fun e => by have hj : (!(mk j).isT || listed.getD j false) = true := hj; rw [e, hT, hLi] at hj; cases hj))] at m2
        rw [← m1, frame_congr (M := fun j => (listed.setIfInBounds i true).getD j false) ops.size (fun j _ => (hset j).symm)]
        rw [← m2, frame_congr (M := fun j => !(mk j).isT || (listed.setIfInBounds i true).getD j false) ops.size (fun j _ => (hLf j).symm)] at hw'
        exact ih _ us { a0 with defers := ds } w' _ C' h00 (by simpa using hs) (set_count hsi hi' h0 hn) (set_closed hsi ho hall hcld)
          (fun j hj => by rw [huo j (hnQ j hj)]; exact hvs j hj) rfl hC' hCx' hCF' hw'
      have hab : ∀ t ∈ o.looksAt ops, (frameOf ops vs (fun j => listed.getD j false) a0 ops.size).tmps[t]? = (frameOf ops vs (fun j => !(mk j).isT || listed.getD j false) a0 ops.size).tmps[t]? := fun t ht =>
        frames_agree2 hd hl rfl ho (fun j hj hw => ⟨hwl j hw, by simp [hwl j hw], rfl⟩) (fun j hj hw => ⟨hlw j hw, by
          cases hTj : (mk j).isT with
          | true => simp [hlw j hw]
          | false =>
            have := hquiet j i hTj hw
            rw [hT] at this; cases this⟩) ht
      have e0 : ∀ (L : Nat → Bool) (ds : List Deferred), ({ frameOf ops vs L a0 ops.size with defers := ds } : Act) = frameOf ops vs L { a0 with defers := ds } ops.size := fun L ds => (frame_defers ops.size).symm
      have e1 : ∀ (L : Nat → Bool), (frameOf ops vs L a0 ops.size).defers = a0.defers := fun L => (frame_size ops.size).2
      unfold wpOp
      simp only [ho]
      rw [wanted_agree hab]
      rw [Chain.eq_cons] at hw
      rcases hw with ⟨hwt, hw⟩ | ⟨hwt, hw⟩
      · rw [if_pos hwt]
        refine .inl (wp_transfer (exec_agree hl ho hab) (fun _ _ _ h => h.elim) (fun v w' h => ?_) (fun d w' h => ?_) (hw w hC))
        · obtain ⟨C', h1, h2, h3, h4⟩ := h
          exact hgo v w' a0.defers C' h1 h2 h3 h4
        · rw [e0, e1] at h ⊢
          obtain ⟨C', h1, h2, h3, h4⟩ := h
          exact hgo undef w' _ C' h1 h2 h3 h4
      · rw [if_neg (by rw [hwt]; simp)]
        exact hgo undef w a0.defers C hC hCx hCF hw

/-- what the chain walks: the marked operations -/
def chainOf : List Oper → List Mark → List Oper
  | o :: l, m :: ms => if m.isT then o :: chainOf l ms else chainOf l ms
  | _, _ => []
theorem chain_eq {mk : Nat → Mark} : ∀ (rest : List Oper) (ms : List Mark) (n : Nat), rest.length = ms.length → (∀ j, rest[j]? = ops[n + j]?) → (∀ j m, ms[j]? = some m → m = mk (n + j)) →
    ((List.range' n rest.length).filter (fun i => (mk i).isT)).filterMap (ops[·]?) = chainOf rest ms
  | [], ms, n, hl, _, _ => by cases ms <;> simp_all [chainOf]
  | o :: rest, [], n, hl, _, _ => by simp at hl
  | o :: rest, m :: ms, n, hl, hr, hms => by
    have ho : ops[n]? = some o := by simpa using (hr 0).symm
    have hm : m = mk n := hms 0 m (by simp)
    have ih := chain_eq rest ms (n + 1) (by simpa using hl) (fun j => by have := hr (j + 1); simpa [Nat.add_assoc, Nat.add_comm 1 j] using this) (fun j m' hj => by have := hms (j + 1) m' (by simpa using hj); rw [this]; congr 1; omega)
    rw [List.length_cons, List.range'_succ, List.filter_cons]
    unfold chainOf
    rw [← hm]
    cases hT : m.isT with
    | true => rw [if_pos rfl, if_pos rfl, List.filterMap_cons, ho, ih]
    | false => rw [if_neg (by simp), if_neg (by simp), ih]

/-- **A region of quiet operations and of a chain**, whatever order is drawn. -/
theorem wp_region_chain {a : Act} {w : World} {C : World → Prop} {Q : Exit → Act → World → Prop} {id : Nat} {l : List Oper} (ms : List Mark) (F : World → Prop) (hm : P.follows .mixedOrders = true) (hlen : l.length = ms.length) (hok : chainOk l.toArray (mkOf ms) = true)
    (hC : C w) (hCx : ∀ w w', C w → Ext w w' → C w') (hCF : ∀ w, C w → F w)
    (h : Walk P l.toArray F (fun a' => Chain P l.toArray F (fun a w => Q .normal a w) (chainOf l ms) a' C) ms l a) : (Code.region id l.toArray true).wp P Q a w := by
  have hok' := hok
  simp only [chainOk, Bool.and_eq_true] at hok'
  have hd : dstApart l.toArray = true := by have := hok'.1; simp only [fixedOk, Bool.and_eq_true] at this; exact this.1
  have hmk : ∀ j m, ms[j]? = some m → m = mkOf ms j := fun j m hj => by simp [mkOf, hj]
  have h0 : ∀ vs : Nat → Value, frameOf l.toArray vs (fun _ => false) a l.toArray.size = a := fun vs => by
    generalize l.toArray.size = n
    induction n with
    | zero => rfl
    | succ n ih => unfold frameOf; simpa using ih
  obtain ⟨vsQ, _, hK, hst⟩ := Walk.values (mk := mkOf ms) hd (a0 := a) l ms 0 (fun _ => undef) (by simp) (by simp) (fun j m hj => by rw [Nat.zero_add]; exact hmk j m hj) (by
    have : frameQ l.toArray (mkOf ms) (fun _ => undef) a 0 = a := by
      unfold frameQ
      rw [frame_congr (M := fun _ => false) _ (fun j _ => by simp)]
      exact h0 _
    rw [this]; exact h)
  refine wp_region_any hm ?_
  have hq : ∀ i o, l.toArray[i]? = some o → (mkOf ms i).isT = false → (Region.wanted o (yielded l.toArray (frameQ l.toArray (mkOf ms) vsQ a i).tmps) = true ∧ StepOK P F o (frameQ l.toArray (mkOf ms) vsQ a i) (vsQ i)) ∨ (Region.wanted o (yielded l.toArray (frameQ l.toArray (mkOf ms) vsQ a i).tmps) = false ∧ vsQ i = undef) := by
    intro i o ho hT
    have hi : i < l.toArray.size := (Array.getElem?_eq_some_iff.1 ho).1
    have hh := List.all_eq_true.1 hok'.2 i (by simpa using hi)
    rw [Bool.and_eq_true] at hh
    have := hst i o (Nat.zero_le _) ho
    cases hmi : mkOf ms i with
    | q => rw [hmi] at this; exact this
    | p =>
      rw [hmi] at this
      rcases this with ⟨h1, h2⟩ | h
      · exact .inl ⟨h1, .inl fun w _ => h2 w⟩
      · exact .inr h
    | a cs t => rw [hmi] at hh; simp [Mark.isQ, Mark.isT] at hh
    | t => rw [hmi] at hT; cases hT
  have key := phaseC (P := P) (F := F) (QN := fun a w => Q .normal a w) (mk := mkOf ms) (Q := Q) (a00 := a) (vsQ := vsQ) hok (fun _ _ h => h) hq l.toArray.size (Array.replicate l.toArray.size false) vsQ a w.drew ((List.range l.toArray.size).filter (fun i => (mkOf ms i).isT)) C rfl (by simp) (by
      have := List.length_filter_le (fun j => !(Array.replicate l.toArray.size false).getD j true) (List.range l.toArray.size)
      simpa using this) (fun i j hi => by rw [repl_false] at hi; cases hi) (fun _ _ => rfl) (List.filter_congr fun j _ => by rw [repl_false]; simp) (hCx w w.drew hC ((Ext.refl w).drew)) hCx hCF ?_
  · rw [frame_congr (M := fun _ => false) l.toArray.size (fun j hj => repl_false _ _), h0] at key
    exact key
  · have e1 : frameQ l.toArray (mkOf ms) vsQ a l.toArray.size = frameOf l.toArray vsQ (fun j => !(mkOf ms j).isT || (Array.replicate l.toArray.size false).getD j false) a l.toArray.size := by
      unfold frameQ
      refine frame_congr _ fun j hj => ?_
      have hh := List.all_eq_true.1 hok'.2 j (by simpa using hj)
      rw [Bool.and_eq_true] at hh
      rw [repl_false, show decide (j < l.toArray.size) = true by simpa using hj]
      rcases (mkOf ms j).trio with ⟨a, b, c⟩ | ⟨a, b, c⟩ | ⟨a, b, c⟩ <;> simp [a, c] at hh ⊢
    rw [← e1]
    have e2 := chain_eq (ops := l.toArray) (mk := mkOf ms) l ms 0 hlen (by simp) (fun j m hj => by rw [Nat.zero_add]; exact hmk j m hj)
    rw [← List.range_eq_range'] at e2
    rw [show l.toArray.size = l.length by simp, e2]
    exact hK
end
end Go.Proofs.YtlaldfkeaalnhaaGreatDoor

/- Regions under Hp: quiet operations and a chain that turns what the call owns. For any program. -/
namespace Go.Proofs.YtlaldfkeaalnhaaGreatDoor
set_option linter.all false
open Go.RowKit
section
variable {P : Program} {ops : Array Oper} {F : World → Prop} {QN : Act → World → Prop} {B : Nat} {w0 : World} {L : List Item} {o : Oper} {rest : List Oper} {a : Act}
theorem Chain.here {l : List Oper} {C : World → Prop} (h : Chain P ops F QN l a C) : Chain P ops F QN l a C := h
theorem Chain.done (h : ∀ w, Hp B w0 w L → QN a w) : Chain P ops F QN [] a (fun W => Hp B w0 W L) := h
theorem Chain.skip (hw : Region.wanted o (yielded ops a.tmps) = false) (h : Chain P ops F QN rest (a.put o.dst undef) (fun W => Hp B w0 W L)) : Chain P ops F QN (o :: rest) a (fun W => Hp B w0 W L) := .inr ⟨hw, h⟩
/-- an operation of the chain that only computes or reads -/
theorem Chain.val {v : Value} (hw : Region.wanted o (yielded ops a.tmps) = true) (hF : ∀ w, Hp B w0 w L → F w) (hr : ∀ w, Hp B w0 w L → (execOp a.eval o).run P w = .ok (.value v) w)
    (h : Chain P ops F QN rest (a.put o.dst v) (fun W => Hp B w0 W L)) : Chain P ops F QN (o :: rest) a (fun W => Hp B w0 W L) := by
  refine .inl ⟨hw, fun w hS => ?_⟩
  unfold Oper.wp
  rw [hr w hS]
  exact ⟨_, hS, fun _ _ h hx => h.step hx, hF, h⟩
/-- an operation of the chain that makes a block -/
theorem Chain.alloc {cs : List Value} {t : TypeId} {f : Nat → Value} (hw : Region.wanted o (yielded ops a.tmps) = true) (hF : ∀ w, Hp B w0 w L → F w) (hr : ∀ w, Hp B w0 w L → (execOp a.eval o).run P w = .ok (.value (f w.heap.size)) (w.alloc (.cells cs.toArray t)))
    (h : ∀ g, Chain P ops F QN rest (a.put o.dst (f g)) (fun W => Hp B w0 W (.blk g cs t :: L))) : Chain P ops F QN (o :: rest) a (fun W => Hp B w0 W L) := by
  refine .inl ⟨hw, fun w hS => ?_⟩
  unfold Oper.wp
  rw [hr w hS]
  exact ⟨fun W => Hp B w0 W (.blk w.heap.size cs t :: L), hS.alloc cs t, fun _ _ h hx => h.step hx, fun W hW => hF W hW.tail, h _⟩
/-- a call of the chain -/
theorem Chain.call {f : FuncId} {args : Array Value} (hw : Region.wanted o (yielded ops a.tmps) = true) (hr : ∀ w, Hp B w0 w L → (execOp a.eval o).run P w = .ok (.enter f args) w)
    (hc : ∀ w, Hp B w0 w L → Calls P f args w fun e w' => ∃ (v : Value) (L' : List Item), e = .returned v ∧ Hp B w0 w' L' ∧ (∀ w, Hp B w0 w L' → F w) ∧ Chain P ops F QN rest (a.put o.dst v) (fun W => Hp B w0 W L')) :
    Chain P ops F QN (o :: rest) a (fun W => Hp B w0 W L) := by
  refine .inl ⟨hw, fun w hS => ?_⟩
  unfold Oper.wp
  rw [hr w hS]
  refine (hc w hS).mono fun e w' ⟨v, L', h1, h2, h3, h4⟩ => ?_
  subst h1
  exact ⟨_, h2, fun _ _ h hx => h.step hx, h3, h4⟩
/-- a store of the chain, or whatever yields nothing and turns what is owned -/
theorem Chain.turn {L' : List Item} (hw : Region.wanted o (yielded ops a.tmps) = true) (hr : ∀ w, Hp B w0 w L → ∃ w', ((execOp a.eval o).run P w = .ok .skip w' ∨ (execOp a.eval o).run P w = .ok (.value undef) w') ∧ Hp B w0 w' L')
    (hF : ∀ w, Hp B w0 w L' → F w) (h : Chain P ops F QN rest (a.put o.dst undef) (fun W => Hp B w0 W L')) : Chain P ops F QN (o :: rest) a (fun W => Hp B w0 W L) := by
  refine .inl ⟨hw, fun w hS => ?_⟩
  obtain ⟨w', hrun, h2⟩ := hr w hS
  unfold Oper.wp
  rcases hrun with hrun | hrun <;> rw [hrun] <;> exact ⟨_, h2, fun _ _ h hx => h.step hx, hF, h⟩
/-- append of a string's bytes, in the chain -/
theorem Chain.appendStr {t u e : TypeId} {n cap : Nat} {A : Option Addr} {xs : List Value} {L0 : List Item} (hE : Elem P t e 1 1) (hz : (P.info? e).bind (·.zero) = some (.int .u8 0)) (hu : P.underlying u = some .string) (hw : Region.wanted o (yielded ops a.tmps) = true) (s x : Operand)
    (ho : o.op = .call { callee := .builtin .append, args := #[s, x], argTypes := #[t, u] }) (i : Nat) (hi : L[i]? = some (.row e 1 A n cap xs)) (hL0 : L.eraseIdx i = L0) (hs : a.eval s = .slice A n cap) (str : ByteArray) (hx : a.eval x = .string str) (hm : n + str.size ≤ 140737488355328)
    (hF : ∀ w, Hp B w0 w L0 → F w) (h : ∀ A' cap', Chain P ops F QN rest (a.put o.dst (.slice A' (n + str.size : Nat) cap')) (fun W => Hp B w0 W (.row e 1 A' (n + str.size) cap' (xs ++ Lib.strCells str) :: L0))) :
    Chain P ops F QN (o :: rest) a (fun W => Hp B w0 W L) := by
  subst hL0
  refine .inl ⟨hw, fun w hS => ?_⟩
  obtain ⟨A', cap', w', hr, h2⟩ := run_append_str_hp (P := P) (ty := o.type) hE hz hu (hS.front i hi) str hm
  unfold Oper.wp execOp
  simp only [ho, resolve, invoke, builtin, Sem.run_bind, Sem.run_pure, Result.andThen_ok, List.map_toArray, List.map_cons, List.map_nil, hs, hx, hr]
  exact ⟨_, h2, fun _ _ h hx => h.step hx, fun W hW => hF W hW.tail, h A' cap'⟩
/-- append of elements that lie at ad, in the chain -/
theorem Chain.append {t e : TypeId} {size bytes n m c cap : Nat} {A : Option Addr} {xs news : List Value} {L0 : List Item} (hE : Elem P t e size bytes) (hw : Region.wanted o (yielded ops a.tmps) = true) (s x : Operand)
    (ho : o.op = .call { callee := .builtin .append, args := #[s, x], argTypes := #[t, t] }) (i : Nat) (hi : L[i]? = some (.row e size A n cap xs)) (hL0 : L.eraseIdx i = L0) (hs : a.eval s = .slice A n cap) (ad : Addr) (hx : a.eval x = .slice (some ad) m c) (hl : news.length = m * size)
    (hnews : ∀ w, Hp B w0 w L → ∀ j u, news[j]? = some u → w.cell? (ad.add j) = some u) (h1 : ∀ u ∈ news, u.oneCell' = true) (hn : (n + m) * bytes ≤ 140737488355328) (hm : n + m ≤ 140737488355328)
    (hF : ∀ w, Hp B w0 w L0 → F w) (h : ∀ A' cap', Chain P ops F QN rest (a.put o.dst (.slice A' (n + m : Nat) cap')) (fun W => Hp B w0 W (.row e size A' (n + m) cap' (xs ++ news) :: L0))) :
    Chain P ops F QN (o :: rest) a (fun W => Hp B w0 W L) := by
  subst hL0
  refine .inl ⟨hw, fun w hS => ?_⟩
  obtain ⟨A', cap', w', hr, h2⟩ := run_append_hp (P := P) (c := c) (ty := o.type) hE (hS.front i hi) ad hl (hnews w hS) h1 hn hm
  unfold Oper.wp execOp
  simp only [ho, resolve, invoke, builtin, Sem.run_bind, Sem.run_pure, Result.andThen_ok, List.map_toArray, List.map_cons, List.map_nil, hs, hx, hr]
  exact ⟨_, h2, fun _ _ h hx => h.step hx, fun W hW => hF W hW.tail, h A' cap'⟩
theorem wp_region_chain_hp {w : World} {Q : Exit → Act → World → Prop} {id : Nat} {l : List Oper} (ms : List Mark) (LF : List Item) (hm : P.follows .mixedOrders = true) (hlen : l.length = ms.length) (hok : chainOk l.toArray (mkOf ms) = true)
    (hS : Hp B w0 w L) (hLF : ∀ w, Hp B w0 w L → Hp B w0 w LF)
    (h : Walk P l.toArray (fun W => Hp B w0 W LF) (fun a' => Chain P l.toArray (fun W => Hp B w0 W LF) (fun a w => Q .normal a w) (chainOf l ms) a' (fun W => Hp B w0 W L)) ms l a) : (Code.region id l.toArray true).wp P Q a w :=
  wp_region_chain ms (fun W => Hp B w0 W LF) hm hlen hok hS (fun _ _ h hx => h.step hx) hLF h
end
end Go.Proofs.YtlaldfkeaalnhaaGreatDoor

/- A region of quiet operations and of others that may turn what the call owns, these in every order that is allowed. For any program. -/
namespace Go.Proofs.YtlaldfkeaalnhaaGreatDoor
set_option linter.all false
open Go.RowKit
section
variable {P : Program} {ops : Array Oper} {F : World → Prop} {QN : Act → World → Prop}

/-- one operation, and what is to hold behind it -/
def CStep (P : Program) (ops : Array Oper) (F : World → Prop) (K : Act → (World → Prop) → Prop) (o : Oper) (a : Act) (C : World → Prop) : Prop :=
    (Region.wanted o (yielded ops a.tmps) = true ∧ ∀ w, C w → o.wp P a w (fun a' w' => ∃ C' : World → Prop, C' w' ∧ (∀ w w', C' w → Ext w w' → C' w') ∧ (∀ w, C' w → F w) ∧ K a' C') (fun _ _ _ => False)) ∨
    (Region.wanted o (yielded ops a.tmps) = false ∧ K (a.put o.dst undef) C)
/-- the walk over the operations whose numbers are in the list, in every order that is allowed -/
def Braid (P : Program) (ops : Array Oper) (F : World → Prop) (QN : Act → World → Prop) : Nat → List Nat → Act → (World → Prop) → Prop
  | 0, rest, a, C => rest = [] ∧ ∀ w, C w → QN a w
  | f + 1, rest, a, C => (rest = [] → ∀ w, C w → QN a w) ∧ ∀ i ∈ rest, (∀ j ∈ rest, waits ops i j = false) → ∀ o, ops[i]? = some o → CStep P ops F (Braid P ops F QN f (rest.filter (· != i))) o a C
theorem Braid.fin {f : Nat} {a : Act} {C : World → Prop} (h : Braid P ops F QN f [] a C) : ∀ w, C w → QN a w := by
  cases f with
  | zero => exact h.2
  | succ f => exact h.1 rfl
/-- the operations that may come next -/
def nextsOf (ops : Array Oper) (rest : List Nat) : List Nat := rest.filter fun i => rest.all fun j => !waits ops i j
theorem Braid.next {f : Nat} {rest nx : List Nat} {a : Act} {C : World → Prop} (hne : rest.isEmpty = false) (hx : nextsOf ops rest = nx) (h : ∀ i ∈ nx, ∀ o, ops[i]? = some o → CStep P ops F (Braid P ops F QN f (rest.filter (· != i))) o a C) : Braid P ops F QN (f + 1) rest a C := by
  refine ⟨fun e => absurd hne (by rw [e]; decide), fun i hi hw o ho => h i ?_ o ho⟩
  rw [← hx]
  exact List.mem_filter.2 ⟨hi, List.all_eq_true.2 fun j hj => by rw [hw j hj]; rfl⟩
theorem Braid.next1 {f : Nat} {rest : List Nat} {a : Act} {C : World → Prop} {i : Nat} {o : Oper} (hne : rest.isEmpty = false) (hx : nextsOf ops rest = [i]) (ho : ops[i]? = some o) (h : CStep P ops F (Braid P ops F QN f (rest.filter (· != i))) o a C) : Braid P ops F QN (f + 1) rest a C :=
  Braid.next hne hx fun k hk o' ho' => by
    obtain rfl : k = i := by simpa using hk
    obtain rfl : o = o' := Option.some.inj (ho.symm.trans ho')
    exact h
theorem Braid.next2 {f : Nat} {rest : List Nat} {a : Act} {C : World → Prop} {i j : Nat} {o p : Oper} (hne : rest.isEmpty = false) (hx : nextsOf ops rest = [i, j]) (ho : ops[i]? = some o) (hp : ops[j]? = some p) (h : CStep P ops F (Braid P ops F QN f (rest.filter (· != i))) o a C) (h2 : CStep P ops F (Braid P ops F QN f (rest.filter (· != j))) p a C) : Braid P ops F QN (f + 1) rest a C :=
  Braid.next hne hx fun k hk o' ho' => by
    rcases (by simpa using hk : k = i ∨ k = j) with rfl | rfl
    · obtain rfl : o = o' := Option.some.inj (ho.symm.trans ho')
      exact h
    · obtain rfl : p = o' := Option.some.inj (hp.symm.trans ho')
      exact h2
theorem Braid.last {f : Nat} {rest : List Nat} {a : Act} {C : World → Prop} (hr : rest = []) (h : ∀ w, C w → QN a w) : Braid P ops F QN f rest a C := by
  subst hr
  cases f with
  | zero => exact ⟨rfl, h⟩
  | succ f => exact ⟨fun _ => h, fun i hi => by cases hi⟩
theorem Braid.done {a : Act} {C : World → Prop} (h : ∀ w, C w → QN a w) : ∀ f, Braid P ops F QN f [] a C
  | 0 => ⟨rfl, h⟩
  | f + 1 => ⟨fun _ => h, fun i hi => by cases hi⟩

variable {B : Nat} {w0 : World} {L : List Item} {o : Oper} {a : Act} {K : Act → (World → Prop) → Prop}
theorem CStep.skip (hw : Region.wanted o (yielded ops a.tmps) = false) (h : K (a.put o.dst undef) (fun W => Hp B w0 W L)) : CStep P ops F K o a (fun W => Hp B w0 W L) := .inr ⟨hw, h⟩
/-- an operation that only computes or reads -/
theorem CStep.val {v : Value} (hw : Region.wanted o (yielded ops a.tmps) = true) (hF : ∀ w, Hp B w0 w L → F w) (hr : ∀ w, Hp B w0 w L → (execOp a.eval o).run P w = .ok (.value v) w)
    (h : K (a.put o.dst v) (fun W => Hp B w0 W L)) : CStep P ops F K o a (fun W => Hp B w0 W L) := by
  refine .inl ⟨hw, fun w hS => ?_⟩
  unfold Oper.wp
  rw [hr w hS]
  exact ⟨_, hS, fun _ _ h hx => h.step hx, hF, h⟩
/-- an operation that makes a block -/
theorem CStep.alloc {cs : List Value} {t : TypeId} {f : Nat → Value} (hw : Region.wanted o (yielded ops a.tmps) = true) (hF : ∀ w, Hp B w0 w L → F w) (hr : ∀ w, Hp B w0 w L → (execOp a.eval o).run P w = .ok (.value (f w.heap.size)) (w.alloc (.cells cs.toArray t)))
    (h : ∀ g, K (a.put o.dst (f g)) (fun W => Hp B w0 W (.blk g cs t :: L))) : CStep P ops F K o a (fun W => Hp B w0 W L) := by
  refine .inl ⟨hw, fun w hS => ?_⟩
  unfold Oper.wp
  rw [hr w hS]
  exact ⟨fun W => Hp B w0 W (.blk w.heap.size cs t :: L), hS.alloc cs t, fun _ _ h hx => h.step hx, fun W hW => hF W hW.tail, h _⟩
/-- a call -/
theorem CStep.call {f : FuncId} {args : Array Value} (hw : Region.wanted o (yielded ops a.tmps) = true) (hr : ∀ w, Hp B w0 w L → (execOp a.eval o).run P w = .ok (.enter f args) w)
    (hc : ∀ w, Hp B w0 w L → Calls P f args w fun e w' => ∃ (v : Value) (L' : List Item), e = .returned v ∧ Hp B w0 w' L' ∧ (∀ w, Hp B w0 w L' → F w) ∧ K (a.put o.dst v) (fun W => Hp B w0 W L')) :
    CStep P ops F K o a (fun W => Hp B w0 W L) := by
  refine .inl ⟨hw, fun w hS => ?_⟩
  unfold Oper.wp
  rw [hr w hS]
  refine (hc w hS).mono fun e w' ⟨v, L', h1, h2, h3, h4⟩ => ?_
  subst h1
  exact ⟨_, h2, fun _ _ h hx => h.step hx, h3, h4⟩
/-- append of elements that lie at ad -/
theorem CStep.append {t e : TypeId} {size bytes n m c cap : Nat} {A : Option Addr} {xs news : List Value} {L0 : List Item} (hE : Elem P t e size bytes) (hw : Region.wanted o (yielded ops a.tmps) = true) (s x : Operand)
    (ho : o.op = .call { callee := .builtin .append, args := #[s, x], argTypes := #[t, t] }) (i : Nat) (hi : L[i]? = some (.row e size A n cap xs)) (hL0 : L.eraseIdx i = L0) (hs : a.eval s = .slice A n cap) (ad : Addr) (hx : a.eval x = .slice (some ad) m c) (hl : news.length = m * size)
    (hnews : ∀ w, Hp B w0 w L → ∀ j u, news[j]? = some u → w.cell? (ad.add j) = some u) (h1 : ∀ u ∈ news, u.oneCell' = true) (hn : (n + m) * bytes ≤ 140737488355328) (hm : n + m ≤ 140737488355328)
    (hF : ∀ w, Hp B w0 w L0 → F w) (h : ∀ A' cap', K (a.put o.dst (.slice A' (n + m : Nat) cap')) (fun W => Hp B w0 W (.row e size A' (n + m) cap' (xs ++ news) :: L0))) :
    CStep P ops F K o a (fun W => Hp B w0 W L) := by
  subst hL0
  refine .inl ⟨hw, fun w hS => ?_⟩
  obtain ⟨A', cap', w', hr, h2⟩ := run_append_hp (P := P) (c := c) (ty := o.type) hE (hS.front i hi) ad hl (hnews w hS) h1 hn hm
  unfold Oper.wp execOp
  simp only [ho, resolve, invoke, builtin, Sem.run_bind, Sem.run_pure, Result.andThen_ok, List.map_toArray, List.map_cons, List.map_nil, hs, hx, hr]
  exact ⟨_, h2, fun _ _ h hx => h.step hx, fun W hW => hF W hW.tail, h A' cap'⟩
end
end Go.Proofs.YtlaldfkeaalnhaaGreatDoor

/- As BraidZ: and operations from number z on wait for all quiet ones: they may turn what these read. For any program. -/
namespace Go.Proofs.YtlaldfkeaalnhaaGreatDoor
set_option linter.all false
open Go.RowKit
section
variable {P : Program} {ops : Array Oper} {F : World → Prop} {QN : Act → World → Prop} {z : Nat} {zc : Bool}

/-- the quiet ones wait for quiet ones alone -/
def braidZ (ops : Array Oper) (mk : Nat → Mark) (z : Nat) : Bool :=
  (List.range ops.size).all (fun i => !((mk i).isT && decide (z ≤ i)) || (List.range ops.size).all fun j => (mk j).isT || deps ops 6 i j) && (fixedOk ops && (List.range ops.size).all fun i => ((mk i).isQ || (mk i).isT) && (List.range ops.size).all fun j => (mk i).isT || !(waits ops i j && (mk j).isT))

/-- one operation, and what is to hold behind it -/
def ZStep (P : Program) (ops : Array Oper) (F : World → Prop) (zc : Bool) (K : Act → (World → Prop) → Prop) (o : Oper) (a : Act) (C : World → Prop) : Prop :=
    (Region.wanted o (yielded ops a.tmps) = true ∧ ∀ w, C w → o.wp P a w (fun a' w' => ∃ C' : World → Prop, C' w' ∧ (∀ w w', C' w → Ext w w' → C' w') ∧ (zc = true ∨ ∀ w, C' w → F w) ∧ K a' C') (fun _ _ _ => False)) ∨
    (Region.wanted o (yielded ops a.tmps) = false ∧ K (a.put o.dst undef) C)
/-- the walk over the operations whose numbers are in the list, in every order that is allowed -/
def BraidZ (P : Program) (ops : Array Oper) (F : World → Prop) (QN : Act → World → Prop) (z : Nat) : Nat → List Nat → Act → (World → Prop) → Prop
  | 0, rest, a, C => rest = [] ∧ ∀ w, C w → QN a w
  | f + 1, rest, a, C => (rest = [] → ∀ w, C w → QN a w) ∧ ∀ i ∈ rest, (∀ j ∈ rest, waits ops i j = false) → ∀ o, ops[i]? = some o → ZStep P ops F (decide (z ≤ i)) (BraidZ P ops F QN z f (rest.filter (· != i))) o a C
theorem BraidZ.fin {f : Nat} {a : Act} {C : World → Prop} (h : BraidZ P ops F QN z f [] a C) : ∀ w, C w → QN a w := by
  cases f with
  | zero => exact h.2
  | succ f => exact h.1 rfl
/-- the operations that may come next -/
def nextsZ (ops : Array Oper) (rest : List Nat) : List Nat := rest.filter fun i => rest.all fun j => !waits ops i j
theorem BraidZ.next {f : Nat} {rest nx : List Nat} {a : Act} {C : World → Prop} (hne : rest.isEmpty = false) (hx : nextsZ ops rest = nx) (h : ∀ i ∈ nx, ∀ o, ops[i]? = some o → ZStep P ops F (decide (z ≤ i)) (BraidZ P ops F QN z f (rest.filter (· != i))) o a C) : BraidZ P ops F QN z (f + 1) rest a C := by
  refine ⟨fun e => absurd hne (by rw [e]; decide), fun i hi hw o ho => h i ?_ o ho⟩
  rw [← hx]
  exact List.mem_filter.2 ⟨hi, List.all_eq_true.2 fun j hj => by rw [hw j hj]; rfl⟩
theorem BraidZ.next1 {f : Nat} {rest : List Nat} {a : Act} {C : World → Prop} {i : Nat} {o : Oper} (hne : rest.isEmpty = false) (hx : nextsZ ops rest = [i]) (ho : ops[i]? = some o) (h : ZStep P ops F (decide (z ≤ i)) (BraidZ P ops F QN z f (rest.filter (· != i))) o a C) : BraidZ P ops F QN z (f + 1) rest a C :=
  BraidZ.next hne hx fun k hk o' ho' => by
    obtain rfl : k = i := by simpa using hk
    obtain rfl : o = o' := Option.some.inj (ho.symm.trans ho')
    exact h
theorem BraidZ.next2 {f : Nat} {rest : List Nat} {a : Act} {C : World → Prop} {i j : Nat} {o p : Oper} (hne : rest.isEmpty = false) (hx : nextsZ ops rest = [i, j]) (ho : ops[i]? = some o) (hp : ops[j]? = some p) (h : ZStep P ops F (decide (z ≤ i)) (BraidZ P ops F QN z f (rest.filter (· != i))) o a C) (h2 : ZStep P ops F (decide (z ≤ j)) (BraidZ P ops F QN z f (rest.filter (· != j))) p a C) : BraidZ P ops F QN z (f + 1) rest a C :=
  BraidZ.next hne hx fun k hk o' ho' => by
    rcases (by simpa using hk : k = i ∨ k = j) with rfl | rfl
    · obtain rfl : o = o' := Option.some.inj (ho.symm.trans ho')
      exact h
    · obtain rfl : p = o' := Option.some.inj (hp.symm.trans ho')
      exact h2
theorem BraidZ.last {f : Nat} {rest : List Nat} {a : Act} {C : World → Prop} (hr : rest = []) (h : ∀ w, C w → QN a w) : BraidZ P ops F QN z f rest a C := by
  subst hr
  cases f with
  | zero => exact ⟨rfl, h⟩
  | succ f => exact ⟨fun _ => h, fun i hi => by cases hi⟩
theorem BraidZ.done {a : Act} {C : World → Prop} (h : ∀ w, C w → QN a w) : ∀ f, BraidZ P ops F QN z f [] a C
  | 0 => ⟨rfl, h⟩
  | f + 1 => ⟨fun _ => h, fun i hi => by cases hi⟩

theorem phaseZ {mk : Nat → Mark} {Q : Exit → Act → World → Prop} {a00 : Act} {vsQ : Nat → Value} (hok : braidZ ops mk z = true) (hQN : ∀ a w, QN a w → Q .normal a w)
    (hq : ∀ i o, ops[i]? = some o → (mk i).isT = false → (Region.wanted o (yielded ops (frameQ ops mk vsQ a00 i).tmps) = true ∧ StepOK P F o (frameQ ops mk vsQ a00 i) (vsQ i)) ∨ (Region.wanted o (yielded ops (frameQ ops mk vsQ a00 i).tmps) = false ∧ vsQ i = undef)) :
    ∀ (fuel : Nat) (listed : Array Bool) (vs : Nat → Value) (a0 : Act) (w : World) (rest : List Nat) (C : World → Prop) (f : Nat), a0.tmps = a00.tmps → listed.size = ops.size → ((List.range ops.size).filter fun j => !listed.getD j true).length ≤ fuel →
      (∀ i j, listed.getD i false = true → waits ops i j = true → listed.getD j false = true) →
      (∀ i, (mk i).isT = false → vs i = vsQ i) →
      rest = (List.range ops.size).filter (fun i => (mk i).isT && !listed.getD i false) → C w → (∀ w w', C w → Ext w w' → C w') → ((∀ w, C w → F w) ∨ ∀ j, j < ops.size → (mk j).isT = false → listed.getD j false = true) →
      BraidZ P ops F QN z f rest (frameOf ops vs (fun j => !(mk j).isT || listed.getD j false) a0 ops.size) C →
      wpAny P .any ops Q fuel listed (frameOf ops vs (fun j => listed.getD j false) a0 ops.size) w := by
  simp only [braidZ, Bool.and_eq_true] at hok
  obtain ⟨hzz, hfx, hch⟩ := hok
  have hzd : ∀ i j, i < ops.size → j < ops.size → (mk i).isT = true → z ≤ i → (mk j).isT = false → deps ops 6 i j = true := fun i j hi hj hT hz hTj => by
    have h := List.all_eq_true.1 hzz i (by simpa using hi)
    rw [hT, decide_eq_true hz, Bool.and_self, Bool.not_true, Bool.false_or] at h
    have h2 := List.all_eq_true.1 h j (by simpa using hj)
    rwa [hTj, Bool.false_or] at h2
  have hd : dstApart ops = true := by simp only [fixedOk, Bool.and_eq_true] at hfx; exact hfx.1
  have hl : looksOk ops = true := by simp only [fixedOk, Bool.and_eq_true] at hfx; exact hfx.2
  rw [List.all_eq_true] at hch
  have hquiet : ∀ i j, (mk i).isT = false → waits ops i j = true → (mk j).isT = false := fun i j hT hw => by
    have hi := waits_lt hw
    have h := hch i (by simpa using hi)
    rw [Bool.and_eq_true] at h
    have h2 := List.all_eq_true.1 h.2 j (by simpa using Nat.lt_trans (waits_on hl hw) hi)
    rw [hT, hw] at h2
    simpa using h2
  have hQT : ∀ i, i < ops.size → (mk i).isQ = !(mk i).isT := fun i hi => by
    have h := hch i (by simpa using hi)
    rw [Bool.and_eq_true] at h
    rcases (mk i).trio with ⟨a, b, c⟩ | ⟨a, b, c⟩ | ⟨a, b, c⟩ <;> simp [a, c] at h ⊢
  have fin : ∀ (listed : Array Bool) (vs : Nat → Value) (a0 : Act) (w : World) (rest : List Nat) (C : World → Prop) (f : Nat), listed.size = ops.size → rest = (List.range ops.size).filter (fun i => (mk i).isT && !listed.getD i false) → C w →
      BraidZ P ops F QN z f rest (frameOf ops vs (fun j => !(mk j).isT || listed.getD j false) a0 ops.size) C → Region.ready .any ops listed = [] → Q .normal (frameOf ops vs (fun j => listed.getD j false) a0 ops.size) w := by
    intro listed vs a0 w rest C f hs hrest hC hw hr
    have hall := all_listed hl hs hr
    have : rest = [] := by
      rw [hrest, List.filter_eq_nil_iff]
      intro i hi
      simp [hall i (by simpa using hi)]
    subst this
    rw [frame_congr (M := fun j => !(mk j).isT || listed.getD j false) ops.size (fun j hj => by simp [hall j hj])]
    exact hQN _ _ (hw.fin w hC)
  intro fuel
  induction fuel with
  | zero =>
    intro listed vs a0 w rest C f _ hs hn _ _ hrest hC _ _ hw
    have hr : Region.ready .any ops listed = [] := by
      rw [List.eq_nil_iff_forall_not_mem]
      intro i hi
      obtain ⟨h0, o, ho, _⟩ := mem_ready.1 hi
      have : i ∈ (List.range ops.size).filter fun j => !listed.getD j true := List.mem_filter.2 ⟨by simpa using (Array.getElem?_eq_some_iff.1 ho).1, by simp [h0]⟩
      rw [List.eq_nil_of_length_eq_zero (Nat.le_zero.1 hn)] at this
      cases this
    exact ⟨hr, fin listed vs a0 w rest C f hs hrest hC hw hr⟩
  | succ fuel ih =>
    intro listed vs a0 w rest C f h00 hs hn hcld hvs hrest hC hCx hCF hw
    refine ⟨fin listed vs a0 w rest C f hs hrest hC hw, fun i hi => ?_⟩
    obtain ⟨h0, o, ho, hall⟩ := mem_ready.1 hi
    have hi' : i < ops.size := (Array.getElem?_eq_some_iff.1 ho).1
    have hsi : i < listed.size := by omega
    have hLi : listed.getD i false = false := by simpa [Array.getD_eq_getD_getElem?, hsi] using h0
    have hwl : ∀ j, waits ops i j = true → listed.getD j false = true := fun j hj => by
      obtain ⟨e, he, hb, rfl⟩ := (waits_spec ho).1 hj
      exact hall e he hb
    have hlw : ∀ j, waits ops j i = true → listed.getD j false = false := fun j hj => by
      cases hb : listed.getD j false with
      | false => rfl
      | true => rw [hcld j i hb hj] at hLi; cases hLi
    have hset := set_getD hsi
    cases hT : (mk i).isT with
    | false =>
      have hput : (ops[i]?).bind (·.dst) = o.dst := by rw [ho]; rfl
      have hwQ : vs i = vsQ i := hvs i hT
      replace hCF : ∀ w, C w → F w := hCF.resolve_right fun h => by rw [h i hi' hT] at hLi; cases hLi
      refine wpOp_fixed (b := frameQ ops mk vsQ a00 i) (v := vsQ i) ho (sel_of hl ho) ?_ (hCF w hC) (hq i o ho hT) ?_
      · intro t ht
        unfold frameQ
        refine frames_agree2 hd hl h00 ho (fun j hj hw => ⟨hwl j hw, ?_, ?_⟩) (fun j hj hw => ⟨hlw j hw, by simp; omega⟩) ht
        · simp [hj, hQT j (Nat.lt_trans hj hi'), hquiet i j hT hw]
        · exact hvs j (hquiet i j hT hw)
      · intro w' hx
        have hmore := frame_more hd (vs := vs) (L := fun j => listed.getD j false) (a0 := a0) hLi ops.size hi'
        rw [hput, hwQ] at hmore
        rw [← hmore, frame_congr (M := fun j => (listed.setIfInBounds i true).getD j false) ops.size (fun j _ => (hset j).symm)]
        refine ih _ vs a0 w' rest C f h00 (by simpa using hs) (set_count hsi hi' h0 hn) (set_closed hsi ho hall hcld) hvs ?_ (hCx w w' hC hx) hCx (.inl hCF) ?_
        · rw [hrest]
          refine List.filter_congr fun j _ => ?_
          rw [hset]
          by_cases e : j = i
          · subst e; simp [hT]
          · have : (j == i) = false := by simpa using e
            rw [this, Bool.false_or]
        · rw [frame_congr (M := fun j => !(mk j).isT || listed.getD j false) ops.size (fun j _ => by
            rw [hset]
            by_cases e : j = i
            · subst e; simp [hT]
            · have : (j == i) = false := by simpa using e
              rw [this, Bool.false_or])]
          exact hw
    | true =>
      have hput : (ops[i]?).bind (·.dst) = o.dst := by rw [ho]; rfl
      have hnQ : ∀ j, (mk j).isT = false → j ≠ i := fun j hj e => by subst e; rw [hT] at hj; cases hj
      have hmem : i ∈ rest := by rw [hrest]; exact List.mem_filter.2 ⟨by simpa using hi', by simp [hT, hLi]⟩
      have hnw : ∀ j ∈ rest, waits ops i j = false := fun j hj => by
        rw [hrest] at hj
        have hj2 := (List.mem_filter.1 hj).2
        simp only [Bool.and_eq_true, Bool.not_eq_true'] at hj2
        cases hw2 : waits ops i j with
        | false => rfl
        | true => rw [hwl j hw2] at hj2; cases hj2.2
      have hrest2 : rest.filter (· != i) = (List.range ops.size).filter (fun j => (mk j).isT && !(listed.setIfInBounds i true).getD j false) := by
        rw [hrest, List.filter_filter]
        refine List.filter_congr fun j _ => ?_
        rw [hset]
        by_cases e : j = i
        · subst e; simp
        · have : (j == i) = false := by simpa using e
          have h' : (j != i) = true := by simpa using e
          rw [this, h', Bool.false_or, Bool.true_and]
      obtain ⟨f, rfl⟩ : ∃ f', f = f' + 1 := by
        cases f with
        | zero => have h0 := hw.1; rw [h0] at hmem; cases hmem
        | succ f => exact ⟨f, rfl⟩
      have hw := hw.2 i hmem hnw o ho
      rw [hrest2] at hw
      have hLf : ∀ j, (!(mk j).isT || (listed.setIfInBounds i true).getD j false) = (j == i || (!(mk j).isT || listed.getD j false)) := fun j => by
        rw [hset]
        by_cases e : j = i
        · subst e; simp
        · have : (j == i) = false := by simpa using e
          rw [this]; simp
      have hgo : ∀ (v : Value) (w' : World) (ds : List Deferred) (C' : World → Prop), C' w' → (∀ w w', C' w → Ext w w' → C' w') → ((∀ w, C' w → F w) ∨ ∀ j, j < ops.size → (mk j).isT = false → (listed.setIfInBounds i true).getD j false = true) → BraidZ P ops F QN z f (List.filter (fun j => (mk j).isT && !(listed.setIfInBounds i true).getD j false) (List.range ops.size)) ((frameOf ops vs (fun j => !(mk j).isT || listed.getD j false) { a0 with defers := ds } ops.size).put o.dst v) C' →
          wpAny P .any ops Q fuel (listed.setIfInBounds i true) ((frameOf ops vs (fun j => listed.getD j false) { a0 with defers := ds } ops.size).put o.dst v) w' := by
        intro v w' ds C' hC' hCx' hCF' hw'
        obtain ⟨us, hus⟩ : ∃ us : Nat → Value, us = fun j => if j = i then v else vs j := ⟨_, rfl⟩
        have hui : us i = v := by rw [hus]; simp
        have huo : ∀ j, j ≠ i → us j = vs j := fun j hj => by rw [hus]; simp [hj]
        have m1 := frame_more hd (vs := us) (L := fun j => listed.getD j false) (a0 := { a0 with defers := ds }) hLi ops.size hi'
        have m2 := frame_more hd (vs := us) (L := fun j => !(mk j).isT || listed.getD j false) (a0 := { a0 with defers := ds }) (i := i) (by rw [hT, hLi]; rfl) ops.size hi'
        rw [hput, hui, frame_vsL (us := vs) (L := fun j => listed.getD j false) (fun j hj => huo j (fun e => by have hj : listed.getD j false = true := hj; rw [e, hLi] at hj; cases hj))] at m1
        rw [hput, hui, frame_vsL (us := vs) (L := fun j => !(mk j).isT || listed.getD j false) (fun j hj => huo j (fun e => by have hj : (!(mk j).isT || listed.getD j false) = true := hj; rw [e, hT, hLi] at hj; cases hj))] at m2
        rw [← m1, frame_congr (M := fun j => (listed.setIfInBounds i true).getD j false) ops.size (fun j _ => (hset j).symm)]
        rw [← m2, frame_congr (M := fun j => !(mk j).isT || (listed.setIfInBounds i true).getD j false) ops.size (fun j _ => (hLf j).symm)] at hw'
        exact ih _ us { a0 with defers := ds } w' _ C' f h00 (by simpa using hs) (set_count hsi hi' h0 hn) (set_closed hsi ho hall hcld)
          (fun j hj => by rw [huo j (hnQ j hj)]; exact hvs j hj) rfl hC' hCx' hCF' hw'
      have hab : ∀ t ∈ o.looksAt ops, (frameOf ops vs (fun j => listed.getD j false) a0 ops.size).tmps[t]? = (frameOf ops vs (fun j => !(mk j).isT || listed.getD j false) a0 ops.size).tmps[t]? := fun t ht =>
        frames_agree2 hd hl rfl ho (fun j hj hw => ⟨hwl j hw, by simp [hwl j hw], rfl⟩) (fun j hj hw => ⟨hlw j hw, by
          cases hTj : (mk j).isT with
          | true => simp [hlw j hw]
          | false =>
            have := hquiet j i hTj hw
            rw [hT] at this; cases this⟩) ht
      have e0 : ∀ (L : Nat → Bool) (ds : List Deferred), ({ frameOf ops vs L a0 ops.size with defers := ds } : Act) = frameOf ops vs L { a0 with defers := ds } ops.size := fun L ds => (frame_defers ops.size).symm
      have e1 : ∀ (L : Nat → Bool), (frameOf ops vs L a0 ops.size).defers = a0.defers := fun L => (frame_size ops.size).2
      have hzc : ∀ C' : World → Prop, (decide (z ≤ i) = true ∨ ∀ w, C' w → F w) → ((∀ w, C' w → F w) ∨ ∀ j, j < ops.size → (mk j).isT = false → (listed.setIfInBounds i true).getD j false = true) := fun C' h => h.elim (fun hz => .inr fun j hj hTj => by rw [hset, deps_closed hcld 6 i j hwl (hzd i j hi' hj hT (of_decide_eq_true hz) hTj), Bool.or_true]) .inl
      unfold wpOp
      simp only [ho]
      rw [wanted_agree hab]
      rcases hw with ⟨hwt, hw⟩ | ⟨hwt, hw⟩
      · rw [if_pos hwt]
        refine .inl (wp_transfer (exec_agree hl ho hab) (fun _ _ _ h => h.elim) (fun v w' h => ?_) (fun d w' h => ?_) (hw w hC))
        · obtain ⟨C', h1, h2, h3, h4⟩ := h
          exact hgo v w' a0.defers C' h1 h2 (hzc C' h3) h4
        · rw [e0, e1] at h ⊢
          obtain ⟨C', h1, h2, h3, h4⟩ := h
          exact hgo undef w' _ C' h1 h2 (hzc C' h3) h4
      · rw [if_neg (by rw [hwt]; simp)]
        exact hgo undef w a0.defers C hC hCx (hCF.imp id fun h j hj hTj => by rw [hset, h j hj hTj, Bool.or_true]) hw

/-- the numbers of the marked operations -/
def braidsOf (ms : List Mark) : List Nat := (List.range ms.length).filter fun i => (mkOf ms i).isT
/-- **A region of quiet operations and of others**, whatever order is drawn. -/
theorem any_region_braidz {a : Act} {w : World} {C : World → Prop} {Q : Exit → Act → World → Prop} {l : List Oper} {QN : Act → World → Prop} (ms : List Mark) (z : Nat) (F : World → Prop) (hQN : ∀ a w, QN a w → Q .normal a w) (hlen : l.length = ms.length) (hok : braidZ l.toArray (mkOf ms) z = true)
    (hC : C w) (hCx : ∀ w w', C w → Ext w w' → C w') (hCF : ∀ w, C w → F w)
    (h : Walk P l.toArray F (fun a' => BraidZ P l.toArray F QN z (braidsOf ms).length (braidsOf ms) a' C) ms l a) : wpAny P .any l.toArray Q l.toArray.size (Array.replicate l.toArray.size false) a w.drew := by
  have hok' := hok
  simp only [braidZ, Bool.and_eq_true] at hok'
  have hd : dstApart l.toArray = true := by have := hok'.2.1; simp only [fixedOk, Bool.and_eq_true] at this; exact this.1
  have hmk : ∀ j m, ms[j]? = some m → m = mkOf ms j := fun j m hj => by simp [mkOf, hj]
  have h0 : ∀ vs : Nat → Value, frameOf l.toArray vs (fun _ => false) a l.toArray.size = a := fun vs => by
    generalize l.toArray.size = n
    induction n with
    | zero => rfl
    | succ n ih => unfold frameOf; simpa using ih
  obtain ⟨vsQ, _, hK, hst⟩ := Walk.values (mk := mkOf ms) hd (a0 := a) l ms 0 (fun _ => undef) (by simp) (by simp) (fun j m hj => by rw [Nat.zero_add]; exact hmk j m hj) (by
    have : frameQ l.toArray (mkOf ms) (fun _ => undef) a 0 = a := by
      unfold frameQ
      rw [frame_congr (M := fun _ => false) _ (fun j _ => by simp)]
      exact h0 _
    rw [this]; exact h)
  have hq : ∀ i o, l.toArray[i]? = some o → (mkOf ms i).isT = false → (Region.wanted o (yielded l.toArray (frameQ l.toArray (mkOf ms) vsQ a i).tmps) = true ∧ StepOK P F o (frameQ l.toArray (mkOf ms) vsQ a i) (vsQ i)) ∨ (Region.wanted o (yielded l.toArray (frameQ l.toArray (mkOf ms) vsQ a i).tmps) = false ∧ vsQ i = undef) := by
    intro i o ho hT
    have hi : i < l.toArray.size := (Array.getElem?_eq_some_iff.1 ho).1
    have hh := List.all_eq_true.1 hok'.2.2 i (by simpa using hi)
    rw [Bool.and_eq_true] at hh
    have := hst i o (Nat.zero_le _) ho
    cases hmi : mkOf ms i with
    | q => rw [hmi] at this; exact this
    | p =>
      rw [hmi] at this
      rcases this with ⟨h1, h2⟩ | h
      · exact .inl ⟨h1, .inl fun w _ => h2 w⟩
      · exact .inr h
    | a cs t => rw [hmi] at hh; simp [Mark.isQ, Mark.isT] at hh
    | t => rw [hmi] at hT; cases hT
  have key := phaseZ (P := P) (F := F) (QN := QN) (mk := mkOf ms) (Q := Q) (a00 := a) (vsQ := vsQ) hok hQN hq l.toArray.size (Array.replicate l.toArray.size false) vsQ a w.drew ((List.range l.toArray.size).filter (fun i => (mkOf ms i).isT)) C (braidsOf ms).length rfl (by simp) (by
      have := List.length_filter_le (fun j => !(Array.replicate l.toArray.size false).getD j true) (List.range l.toArray.size)
      simpa using this) (fun i j hi => by rw [repl_false] at hi; cases hi) (fun _ _ => rfl) (List.filter_congr fun j _ => by rw [repl_false]; simp) (hCx w w.drew hC ((Ext.refl w).drew)) hCx (.inl hCF) ?_
  · rw [frame_congr (M := fun _ => false) l.toArray.size (fun j hj => repl_false _ _), h0] at key
    exact key
  · have e1 : frameQ l.toArray (mkOf ms) vsQ a l.toArray.size = frameOf l.toArray vsQ (fun j => !(mkOf ms j).isT || (Array.replicate l.toArray.size false).getD j false) a l.toArray.size := by
      unfold frameQ
      refine frame_congr _ fun j hj => ?_
      have hh := List.all_eq_true.1 hok'.2.2 j (by simpa using hj)
      rw [Bool.and_eq_true] at hh
      rw [repl_false, show decide (j < l.toArray.size) = true by simpa using hj]
      rcases (mkOf ms j).trio with ⟨a, b, c⟩ | ⟨a, b, c⟩ | ⟨a, b, c⟩ <;> simp [a, c] at hh ⊢
    rw [← e1]
    have e2 : (List.range l.toArray.size).filter (fun i => (mkOf ms i).isT) = braidsOf ms := by unfold braidsOf; rw [show l.toArray.size = ms.length by simp [hlen]]
    rw [e2]
    exact hK
theorem wp_region_braidz {a : Act} {w : World} {C : World → Prop} {Q : Exit → Act → World → Prop} {id : Nat} {l : List Oper} (ms : List Mark) (z : Nat) (F : World → Prop) (hm : P.follows .mixedOrders = true) (hlen : l.length = ms.length) (hok : braidZ l.toArray (mkOf ms) z = true)
    (hC : C w) (hCx : ∀ w w', C w → Ext w w' → C w') (hCF : ∀ w, C w → F w)
    (h : Walk P l.toArray F (fun a' => BraidZ P l.toArray F (fun a w => Q .normal a w) z (braidsOf ms).length (braidsOf ms) a' C) ms l a) : (Code.region id l.toArray true).wp P Q a w :=
  wp_region_any hm (any_region_braidz ms z F (fun _ _ h => h) hlen hok hC hCx hCF h)

variable {B : Nat} {w0 : World} {L : List Item} {o : Oper} {a : Act} {K : Act → (World → Prop) → Prop}
theorem ZStep.skip (hw : Region.wanted o (yielded ops a.tmps) = false) (h : K (a.put o.dst undef) (fun W => Hp B w0 W L)) : ZStep P ops F zc K o a (fun W => Hp B w0 W L) := .inr ⟨hw, h⟩
/-- an operation that only computes or reads -/
theorem ZStep.val {v : Value} (hw : Region.wanted o (yielded ops a.tmps) = true) (hF : ∀ w, Hp B w0 w L → F w) (hr : ∀ w, Hp B w0 w L → (execOp a.eval o).run P w = .ok (.value v) w)
    (h : K (a.put o.dst v) (fun W => Hp B w0 W L)) : ZStep P ops F zc K o a (fun W => Hp B w0 W L) := by
  refine .inl ⟨hw, fun w hS => ?_⟩
  unfold Oper.wp
  rw [hr w hS]
  exact ⟨_, hS, fun _ _ h hx => h.step hx, .inr hF, h⟩
/-- an operation that makes a block -/
theorem ZStep.alloc {cs : List Value} {t : TypeId} {f : Nat → Value} (hw : Region.wanted o (yielded ops a.tmps) = true) (hF : ∀ w, Hp B w0 w L → F w) (hr : ∀ w, Hp B w0 w L → (execOp a.eval o).run P w = .ok (.value (f w.heap.size)) (w.alloc (.cells cs.toArray t)))
    (h : ∀ g, K (a.put o.dst (f g)) (fun W => Hp B w0 W (.blk g cs t :: L))) : ZStep P ops F zc K o a (fun W => Hp B w0 W L) := by
  refine .inl ⟨hw, fun w hS => ?_⟩
  unfold Oper.wp
  rw [hr w hS]
  exact ⟨fun W => Hp B w0 W (.blk w.heap.size cs t :: L), hS.alloc cs t, fun _ _ h hx => h.step hx, .inr fun W hW => hF W hW.tail, h _⟩
/-- a call -/
theorem ZStep.call {f : FuncId} {args : Array Value} (hw : Region.wanted o (yielded ops a.tmps) = true) (hr : ∀ w, Hp B w0 w L → (execOp a.eval o).run P w = .ok (.enter f args) w)
    (hc : ∀ w, Hp B w0 w L → Calls P f args w fun e w' => ∃ (v : Value) (L' : List Item), e = .returned v ∧ Hp B w0 w' L' ∧ (∀ w, Hp B w0 w L' → F w) ∧ K (a.put o.dst v) (fun W => Hp B w0 W L')) :
    ZStep P ops F zc K o a (fun W => Hp B w0 W L) := by
  refine .inl ⟨hw, fun w hS => ?_⟩
  unfold Oper.wp
  rw [hr w hS]
  refine (hc w hS).mono fun e w' ⟨v, L', h1, h2, h3, h4⟩ => ?_
  subst h1
  exact ⟨_, h2, fun _ _ h hx => h.step hx, .inr h3, h4⟩
/-- append of elements that lie at ad -/
theorem ZStep.append {t e : TypeId} {size bytes n m c cap : Nat} {A : Option Addr} {xs news : List Value} {L0 : List Item} (hE : Elem P t e size bytes) (hw : Region.wanted o (yielded ops a.tmps) = true) (s x : Operand)
    (ho : o.op = .call { callee := .builtin .append, args := #[s, x], argTypes := #[t, t] }) (i : Nat) (hi : L[i]? = some (.row e size A n cap xs)) (hL0 : L.eraseIdx i = L0) (hs : a.eval s = .slice A n cap) (ad : Addr) (hx : a.eval x = .slice (some ad) m c) (hl : news.length = m * size)
    (hnews : ∀ w, Hp B w0 w L → ∀ j u, news[j]? = some u → w.cell? (ad.add j) = some u) (h1 : ∀ u ∈ news, u.oneCell' = true) (hn : (n + m) * bytes ≤ 140737488355328) (hm : n + m ≤ 140737488355328)
    (hF : ∀ w, Hp B w0 w L0 → F w) (h : ∀ A' cap', K (a.put o.dst (.slice A' (n + m : Nat) cap')) (fun W => Hp B w0 W (.row e size A' (n + m) cap' (xs ++ news) :: L0))) :
    ZStep P ops F zc K o a (fun W => Hp B w0 W L) := by
  subst hL0
  refine .inl ⟨hw, fun w hS => ?_⟩
  obtain ⟨A', cap', w', hr, h2⟩ := run_append_hp (P := P) (c := c) (ty := o.type) hE (hS.front i hi) ad hl (hnews w hS) h1 hn hm
  unfold Oper.wp execOp
  simp only [ho, resolve, invoke, builtin, Sem.run_bind, Sem.run_pure, Result.andThen_ok, List.map_toArray, List.map_cons, List.map_nil, hs, hx, hr]
  exact ⟨_, h2, fun _ _ h hx => h.step hx, .inr fun W hW => hF W hW.tail, h A' cap'⟩
/-- a store, behind all quiet ones -/
theorem ZStep.turn {L' : List Item} (hw : Region.wanted o (yielded ops a.tmps) = true) (hr : ∀ w, Hp B w0 w L → ∃ w', ((execOp a.eval o).run P w = .ok .skip w' ∨ (execOp a.eval o).run P w = .ok (.value undef) w') ∧ Hp B w0 w' L')
    (h : K (a.put o.dst undef) (fun W => Hp B w0 W L')) : ZStep P ops F true K o a (fun W => Hp B w0 W L) := by
  refine .inl ⟨hw, fun w hS => ?_⟩
  obtain ⟨w', hrun, h2⟩ := hr w hS
  unfold Oper.wp
  rcases hrun with hrun | hrun <;> rw [hrun] <;> exact ⟨_, h2, fun _ _ h hx => h.step hx, .inl rfl, h⟩
/-- an operation that only computes or reads, behind all quiet ones -/
theorem ZStep.valz {v : Value} (hw : Region.wanted o (yielded ops a.tmps) = true) (hr : ∀ w, Hp B w0 w L → (execOp a.eval o).run P w = .ok (.value v) w)
    (h : K (a.put o.dst v) (fun W => Hp B w0 W L)) : ZStep P ops F true K o a (fun W => Hp B w0 W L) := by
  refine .inl ⟨hw, fun w hS => ?_⟩
  unfold Oper.wp
  rw [hr w hS]
  exact ⟨_, hS, fun _ _ h hx => h.step hx, .inl rfl, h⟩
theorem wp_region_braidz_hp {a : Act} {w : World} {Q : Exit → Act → World → Prop} {id : Nat} {l : List Oper} (ms : List Mark) (z : Nat) (LF : List Item) (hm : P.follows .mixedOrders = true) (hlen : l.length = ms.length) (hok : braidZ l.toArray (mkOf ms) z = true)
    (hS : Hp B w0 w L) (hLF : ∀ w, Hp B w0 w L → Hp B w0 w LF)
    (h : Walk P l.toArray (fun W => Hp B w0 W LF) (fun a' => BraidZ P l.toArray (fun W => Hp B w0 W LF) (fun a w => Q .normal a w) z (braidsOf ms).length (braidsOf ms) a' (fun W => Hp B w0 W L)) ms l a) : (Code.region id l.toArray true).wp P Q a w :=
  wp_region_braidz ms z (fun W => Hp B w0 W LF) hm hlen hok hS (fun _ _ h hx => h.step hx) hLF h
end
end Go.Proofs.YtlaldfkeaalnhaaGreatDoor

/- As Braid2, where three operations may come next. For any program. -/
namespace Go.Proofs.YtlaldfkeaalnhaaGreatDoor
set_option linter.all false
open Go.RowKit
section
variable {P : Program} {ops : Array Oper} {F : World → Prop} {QN : Act → World → Prop} {z : Nat} {zc : Bool}
theorem BraidZ.next3 {f : Nat} {rest : List Nat} {a : Act} {C : World → Prop} {i j k : Nat} {o p q : Oper} (hne : rest.isEmpty = false) (hx : nextsZ ops rest = [i, j, k]) (ho : ops[i]? = some o) (hp : ops[j]? = some p) (hq : ops[k]? = some q)
    (h : ZStep P ops F (decide (z ≤ i)) (BraidZ P ops F QN z f (rest.filter (· != i))) o a C) (h2 : ZStep P ops F (decide (z ≤ j)) (BraidZ P ops F QN z f (rest.filter (· != j))) p a C)
    (h3 : ZStep P ops F (decide (z ≤ k)) (BraidZ P ops F QN z f (rest.filter (· != k))) q a C) : BraidZ P ops F QN z (f + 1) rest a C :=
  BraidZ.next hne hx fun m hm o' ho' => by
    rcases (by simpa using hm : m = i ∨ m = j ∨ m = k) with rfl | rfl | rfl
    · obtain rfl : o = o' := Option.some.inj (ho.symm.trans ho')
      exact h
    · obtain rfl : p = o' := Option.some.inj (hp.symm.trans ho')
      exact h2
    · obtain rfl : q = o' := Option.some.inj (hq.symm.trans ho')
      exact h3
end
end Go.Proofs.YtlaldfkeaalnhaaGreatDoor

/- In place: a row is shrunk, appended to where there is room, cleared behind its end. For any program. -/
namespace Go.Proofs.YtlaldfkeaalnhaaGreatDoor
set_option linter.all false
open Go.RowKit
section
variable {P : Program} {ops : Array Oper} {F : World → Prop} {QN : Act → World → Prop} {B : Nat} {w0 w : World} {L : List Item} {o : Oper} {rest : List Oper} {a : Act}
theorem Hp.blkRow {e : TypeId} {size g n : Nat} {cs : List Value} (h : Hp B w0 w (.blk g cs e :: L)) (hl : cs.length = n * size) (hm : n ≤ 140737488355328) : Hp B w0 w (.row e size (some ⟨g, 0, none⟩) n n cs :: L) := by
  refine h.turn ((Ext.refl w).grownBy none) (.inl rfl) ⟨hl, .inr ⟨g, n, cs.toArray, rfl, h.head.1, h.head.2, Nat.le_refl _, by unfold maxLen; omega, by simpa using hl, ?_⟩⟩ (.inl rfl)
  rw [← hl]; simp
end
end Go.Proofs.YtlaldfkeaalnhaaGreatDoor
