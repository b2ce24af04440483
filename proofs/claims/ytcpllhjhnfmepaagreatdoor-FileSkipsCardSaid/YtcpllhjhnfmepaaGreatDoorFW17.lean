/- Texts joined: What is written is read back; what was read well is read so, whatever stands behind it: the plain law of encode. encode.Decode's look at a bit. numbers that are read fit 64 bits. reader.values, the way of runs; all ways together. -/
import Derived.Test.YtcpllhjhnfmepaaGreatDoorFW16
import Derived.Test.YtcpllhjhnfmepaaGreatDoorFW13
/- What is written is read back; what was read well is read so, whatever stands behind it: the plain law of encode. -/
namespace Go.Proofs.YtcpllhjhnfmepaaGreatDoor
set_option linter.unusedSimpArgs false
set_option linter.unusedVariables false
open Go.RowKit
set_option linter.all false
open Go.Lib (uvarint zigzag)
theorem rNumF_enc : ∀ (m i acc u : Nat) (r : List UInt8), m + i = 9 → u < 2 ^ (7 * (m + 1)) → acc + u * 2 ^ (7 * i) < 18446744073709551616 → rNumF i acc (uvarint u ++ r) = some (acc + u * 2 ^ (7 * i), r)
  | m, i, acc, u, r, hm, hu, ht => by
    by_cases h : u < 128
    · have e : u.toUInt8.toNat = u := by rw [Nat.toUInt8_eq, UInt8.toNat_ofNat']; omega
      rw [Lib.uvarint_small h, List.cons_append, List.nil_append, rNumF, if_neg (by omega), e, if_pos h, Nat.mod_eq_of_lt h, Nat.mod_eq_of_lt ht]
    · cases m with
      | zero => omega
      | succ m =>
        have e : (u % 128 + 128).toUInt8.toNat = u % 128 + 128 := by rw [Nat.toUInt8_eq, UInt8.toNat_ofNat']; omega
        have hp : 2 ^ (7 * (i + 1)) = 128 * 2 ^ (7 * i) := by rw [Nat.mul_add, Nat.pow_add, Nat.mul_comm]
        have hp2 : 2 ^ (7 * (m + 1 + 1)) = 128 * 2 ^ (7 * (m + 1)) := by rw [show 7 * (m + 1 + 1) = 7 * (m + 1) + 7 by omega, Nat.pow_add, Nat.mul_comm]
        have ht2 : acc + u % 128 * 2 ^ (7 * i) + u / 128 * 2 ^ (7 * (i + 1)) = acc + u * 2 ^ (7 * i) := by
          rw [hp, ← Nat.mul_assoc, Nat.add_assoc, ← Nat.add_mul, show u % 128 + u / 128 * 128 = u by omega]
        rw [Lib.uvarint_big (by omega), List.cons_append, rNumF, if_neg (by omega), e, if_neg (by omega), show (u % 128 + 128) % 128 = u % 128 by omega, Nat.mod_eq_of_lt (Nat.lt_of_le_of_lt (by rw [← ht2]; exact Nat.le_add_right _ _) ht), rNumF_enc m (i + 1) _ (u / 128) r (by omega) (by rw [hp2] at hu; omega) (by rw [ht2]; exact ht), ht2]
theorem rNumber_enc (u : Nat) (hu : u < 18446744073709551616) (r : List UInt8) (b : Bool) : rNumber (uvarint u ++ r, b) = (u, (r, b)) := by
  have := rNumF_enc 9 0 0 u r rfl (Nat.lt_of_lt_of_le hu (by decide)) (by simpa using hu)
  rw [Nat.zero_add, Nat.mul_zero, Nat.pow_zero, Nat.mul_one] at this
  unfold rNumber
  simp only [this]
theorem unzig_zig (x : Int) : unzig (zigzag x) = x := by
  unfold unzig zigzag
  split <;> split <;> omega
theorem rSigned_enc (x : Int) (hx : i64 x) (r : List UInt8) (b : Bool) : rSigned (uvarint (zigzag x) ++ r, b) = (x, (r, b)) := by
  unfold rSigned
  rw [rNumber_enc _ (Lib.zigzag_lt hx.1 hx.2), unzig_zig]
theorem rSmall_enc (m u : Nat) (hm : m < 18446744073709551616) (hu : u ≤ m) (r : List UInt8) (b : Bool) : rSmall m (uvarint u ++ r, b) = (u, (r, b)) := by
  unfold rSmall
  rw [rNumber_enc u (by omega), if_neg (by omega)]
theorem rTake_enc (n : Nat) (l r : List UInt8) (h : n = l.length) : rTake n (l ++ r, false) = (l, (r, false)) := by
  subst h
  unfold rTake
  rw [if_neg (by simp), List.take_left, List.drop_left]
/-- a value of a kind, such as may be -/
def Fits (kind : Int) (x : GV) : Prop := i64 x.num ∧ x.kind = kind ∧ (kind = 1 ∧ x.text = ⟨#[]⟩ ∨ kind = 2 ∧ x.num = 0 ∧ x.text.size ≤ 40)
theorem rOne_enc {kind : Int} {x : GV} (h : Fits kind x) (r : List UInt8) : rOne kind (encV x ++ r, false) = (x, (r, false)) := by
  obtain ⟨hi, hk, h⟩ := h
  obtain ⟨k, n, t⟩ := x
  simp only at hi hk h
  subst hk
  rcases h with ⟨rfl, rfl⟩ | ⟨rfl, rfl, hs⟩
  · unfold rOne encV
    rw [if_pos rfl, if_pos rfl, rSigned_enc n hi]
  · unfold rOne encV
    rw [if_neg (by decide), if_neg (show ¬ (2 : Int) = 1 by decide)]
    simp only [List.append_assoc]
    rw [rSmall_enc 40 _ (by decide) hs]
    simp only
    rw [rTake_enc _ _ _ (by rw [size_cast])]
theorem rPlain_enc {kind : Int} : ∀ (l acc : List GV) (r : List UInt8), (∀ x ∈ l, Fits kind x) → rPlain kind l.length (l.flatMap encV ++ r, false) acc = (acc ++ l, (r, false))
  | [], acc, r, _ => by simp [rPlain]
  | x :: l, acc, r, h => by
    rw [List.length_cons, rPlain, List.flatMap_cons, List.append_assoc, rOne_enc (h x (by simp))]
    simp only
    rw [rPlain_enc l _ r fun y hy => h y (by simp [hy])]
    simp
theorem tw_eq (x : GV) : ∀ l : List GV, l = List.replicate (l.takeWhile fun y => eqG y x).length x ++ l.dropWhile fun y => eqG y x
  | [] => rfl
  | y :: l => by
    rw [List.takeWhile_cons, List.dropWhile_cons]
    split
    · rename_i h
      have := (eqG_iff y x).1 h
      subst this
      rw [List.length_cons, List.replicate_succ, List.cons_append, ← tw_eq y l]
    · simp
theorem rRuns_enc {kind : Int} (n : Nat) (hn : n < 1000) : ∀ (f : Nat) (l acc : List GV) (r : List UInt8), l.length < f → acc.length + l.length = n → (∀ x ∈ l, Fits kind x) → rRuns kind n f (runsS l ++ r, false) acc = (acc ++ l, (r, false))
  | 0, l, acc, r, hf, _, _ => by omega
  | f + 1, [], acc, r, _, hn2, _ => by
    rw [rRuns, if_neg (by simp only [List.length_nil] at hn2; omega), runsS]
    simp
  | f + 1, x :: l, acc, r, hf, hn2, h => by
    have e := tw_eq x l
    have h5 : (l.takeWhile fun y => eqG y x).length ≤ l.length := (List.takeWhile_sublist _).length_le
    have h6 := len_dropWhile (fun y => eqG y x) l
    simp only [List.length_cons] at hf hn2
    rw [rRuns, if_pos ⟨by omega, rfl⟩, runsS]
    simp only [List.append_assoc]
    rw [rSmall_enc (n - acc.length) _ (by omega) (by omega)]
    simp only
    rw [rOne_enc (h x (by simp))]
    simp only
    rw [decide_eq_false (by omega), Bool.or_false]
    have el : List.replicate (1 + (l.takeWhile fun y => eqG y x).length) x ++ (l.dropWhile fun y => eqG y x) = x :: l := by
      rw [Nat.add_comm, List.replicate_succ, List.cons_append, ← e]
    have ell := congrArg List.length el
    rw [List.length_append, List.length_replicate, List.length_cons] at ell
    rw [rRuns_enc n hn f (l.dropWhile fun y => eqG y x) _ r (by omega) (by rw [List.length_append, List.length_replicate]; omega) (fun y hy => h y (by simp [(List.dropWhile_sublist _).subset hy])), List.append_assoc, el]
theorem idxP_at (p : GV → Bool) : ∀ (l : List GV) (k : Nat), 0 ≤ idxP p k l → ∃ y, l[(idxP p k l).toNat - k]? = some y ∧ p y = true ∧ k ≤ (idxP p k l).toNat
  | [], k, h => by simp [idxP] at h
  | x :: l, k, h => by
    unfold idxP at h ⊢
    split
    · rename_i hx
      exact ⟨x, by simp, hx, by simp⟩
    · rename_i hx
      rw [if_neg hx] at h
      obtain ⟨y, h1, h2, h3⟩ := idxP_at p l (k + 1) h
      refine ⟨y, ?_, h2, by omega⟩
      rw [show (idxP p (k + 1) l).toNat - k = (idxP p (k + 1) l).toNat - (k + 1) + 1 by omega, List.getElem?_cons_succ]
      exact h1
theorem rPick_enc (all : List GV) (ha : all.length ≤ 60) : ∀ (l acc : List GV) (r : List UInt8), (∀ x ∈ l, x ∈ all) → rPick all l.length (l.flatMap (fun x => uvarint (idxP (eqG x) 0 all).toNat) ++ r, false) acc = (acc ++ l, (r, false))
  | [], acc, r, _ => by simp [rPick]
  | x :: l, acc, r, h => by
    obtain ⟨y, h1, h2, h3⟩ := idxP_at (eqG x) all 0 (idx_mem (h x (by simp)))
    have h4 := (idxP_range (eqG x) all 0).2
    have := (eqG_iff x y).1 h2
    subst this
    rw [List.length_cons, rPick, List.flatMap_cons, List.append_assoc, rSmall_enc 60 _ (by decide) (by omega)]
    simp only
    rw [Nat.sub_zero] at h1
    simp only [h1]
    rw [rPick_enc all ha l _ r fun y hy => h y (by simp [hy])]
    simp
theorem rSteps_enc : ∀ (l acc : List GV) (last : Int) (r : List UInt8), (∀ x ∈ l, Fits 1 x) → rSteps l.length last (stepsS last l ++ r, false) acc = (acc ++ l, (r, false))
  | [], acc, last, r, _ => by simp [rSteps, stepsS]
  | x :: l, acc, last, r, h => by
    have hx := h x (by simp)
    obtain ⟨hi, hk, ht⟩ := hx
    have ht : x.text = ⟨#[]⟩ := by rcases ht with ht | ht; · exact ht.2
                                   · exact absurd ht.1 (by decide)
    have hw : wrap64 (last + wrap64 (x.num - last)) = x.num := by unfold i64 at hi; unfold wrap64; omega
    rw [List.length_cons, rSteps, stepsS, List.append_assoc, rSigned_enc _ (wrap_i64 _)]
    simp only
    rw [hw, rSteps_enc l _ x.num r fun y hy => h y (by simp [hy])]
    have e : (⟨1, x.num, ⟨#[]⟩⟩ : GV) = x := by obtain ⟨k, n, t⟩ := x; simp only at hk ht; rw [hk, ht]
    rw [e]
    simp
theorem rValues_enc {kind : Int} (way : Nat) (hw : way < 4) (h3 : way = 3 → kind = 1) (l : List GV) (hl : l.length ≤ 60) (r : List UInt8) (h : ∀ x ∈ l, Fits kind x) : rValues way kind l.length (writeS way l ++ r, false) = (l, (r, false)) := by
  rcases (by omega : way = 0 ∨ way = 1 ∨ way = 2 ∨ way = 3) with rfl | rfl | rfl | rfl
  · unfold rValues writeS
    rw [if_pos rfl, if_pos rfl, rPlain_enc l [] r h, List.nil_append]
  · unfold rValues writeS
    rw [if_neg (by decide), if_pos rfl, if_neg (by decide), if_pos rfl, rRuns_enc _ (by omega) _ l [] r (by omega) (by simp) h, List.nil_append]
  · unfold rValues writeS
    have hd := dedup_len l
    rw [if_neg (by decide), if_neg (by decide), if_pos rfl, if_neg (by decide), if_neg (by decide), if_pos rfl]
    unfold wordsS
    simp only [List.append_assoc]
    rw [rSmall_enc _ _ (by omega) hd]
    simp only
    rw [rPlain_enc (dedup l) [] _ (fun x hx => h x (dedup_mem.1 hx)), List.nil_append]
    simp only
    rw [rPick_enc (dedup l) (by omega) l [] r (fun x hx => dedup_mem.2 hx), List.nil_append]
  · unfold rValues writeS
    obtain rfl := h3 rfl
    rw [if_neg (by decide), if_neg (by decide), if_neg (by decide), if_pos rfl, if_neg (by decide), if_neg (by decide), if_neg (by decide), if_pos rfl, rSteps_enc l [] 0 r h, List.nil_append]

-- the bits
def nullB (bs : List UInt8) (i : Nat) : Bool := (bs.getD (i / 8) 0).toNat.testBit (i % 8)
theorem setB_len (bs : List UInt8) (k : Nat) : (setB bs k).length = bs.length := by unfold setB; rw [List.length_set]
theorem nullB_set (bs : List UInt8) (k i : Nat) (hk : k / 8 < bs.length) : nullB (setB bs k) i = (nullB bs i || decide (k = i)) := by
  unfold nullB setB
  have hlt : (bs.getD (k / 8) 0).toNat ||| 2 ^ (k % 8) < 256 := Nat.or_lt_two_pow (n := 8) (bs.getD (k / 8) 0).toNat_lt (Nat.pow_lt_pow_right (by decide) (by omega : k % 8 < 8))
  rw [List.getD_eq_getElem?_getD, List.getElem?_set]
  by_cases h : k / 8 = i / 8
  · rw [if_pos h, if_pos hk, Option.getD_some, UInt8.toNat_ofNat', Nat.mod_eq_of_lt hlt, Nat.testBit_or, Nat.testBit_two_pow, h]
    congr 1
    apply decide_eq_decide.2
    omega
  · rw [if_neg h, ← List.getD_eq_getElem?_getD, decide_eq_false (by intro e; rw [e] at h; exact h rfl), Bool.or_false]
theorem bitsF_null : ∀ (l : List GV) (k : Nat) (bs : List UInt8) (i : Nat), (k + l.length + 7) / 8 ≤ bs.length → nullB (bitsF k l bs) i = (nullB bs i || (decide (k ≤ i) && (match l[i - k]? with | some x => decide (x.kind = 0) | none => false)))
  | [], k, bs, i, _ => by simp [bitsF]
  | x :: l, k, bs, i, h => by
    simp only [List.length_cons] at h
    rw [bitsF, bitsF_null l (k + 1) _ i (by split <;> (try rw [setB_len]) <;> omega)]
    have hn : nullB (if x.kind = 0 then setB bs k else bs) i = (nullB bs i || (decide (x.kind = 0) && decide (k = i))) := by
      split
      · rename_i hx
        rw [nullB_set _ _ _ (by omega), decide_eq_true hx, Bool.true_and]
      · rename_i hx
        rw [decide_eq_false hx, Bool.false_and, Bool.or_false]
    rw [hn, Bool.or_assoc]
    congr 1
    rcases Nat.lt_trichotomy k i with hlt | rfl | hlt
    · rw [decide_eq_false (by omega : ¬ k = i), Bool.and_false, Bool.false_or, decide_eq_true (by omega : k + 1 ≤ i), decide_eq_true (by omega : k ≤ i), show i - k = i - (k + 1) + 1 by omega, List.getElem?_cons_succ]
    · rw [decide_eq_true (rfl : k = k), Bool.and_true, decide_eq_false (by omega : ¬ k + 1 ≤ k), Bool.false_and, Bool.or_false, decide_eq_true (Nat.le_refl k), Bool.true_and, Nat.sub_self]
      rfl
    · rw [decide_eq_false (by omega : ¬ k = i), Bool.and_false, Bool.false_or, decide_eq_false (by omega : ¬ k + 1 ≤ i), decide_eq_false (by omega : ¬ k ≤ i), Bool.false_and, Bool.false_and]
theorem bitsF_len : ∀ (l : List GV) (k : Nat) (bs : List UInt8), (bitsF k l bs).length = bs.length
  | [], k, bs => rfl
  | x :: l, k, bs => by rw [bitsF, bitsF_len l]; split <;> simp only [setB_len]
theorem bitsS_len (l : List GV) : (bitsS l).length = (l.length + 7) / 8 := by unfold bitsS; rw [bitsF_len, List.length_replicate]
theorem nullB_zero (n i : Nat) : nullB (List.replicate n 0) i = false := by
  unfold nullB
  rw [List.getD_eq_getElem?_getD, List.getElem?_replicate]
  split <;> simp
theorem bitsS_null (l : List GV) (i : Nat) (x : GV) (h : l[i]? = some x) : nullB (bitsS l) i = decide (x.kind = 0) := by
  unfold bitsS
  rw [bitsF_null l 0 _ i (by rw [List.length_replicate]; omega), nullB_zero, Bool.false_or, decide_eq_true (Nat.zero_le i), Bool.true_and, Nat.sub_zero, h]

-- what is nothing, and what is not
def cntN (bs : List UInt8) : Nat → Nat → Nat
  | _, 0 => 0
  | i, n + 1 => (if nullB bs i = true then 0 else 1) + cntN bs (i + 1) n
def fillN (bs : List UInt8) : Nat → Nat → List GV → List GV
  | _, 0, _ => []
  | i, n + 1, l => if nullB bs i = true then ⟨0, 0, ⟨#[]⟩⟩ :: fillN bs (i + 1) n l else match l with
    | [] => []
    | x :: l => x :: fillN bs (i + 1) n l
theorem fill_some (bs : List UInt8) : ∀ (l : List GV) (k : Nat), (∀ i x, l[i]? = some x → nullB bs (k + i) = decide (x.kind = 0)) → (∀ x ∈ l, x.kind = 0 → x = ⟨0, 0, ⟨#[]⟩⟩) → cntN bs k l.length = (someS l).length ∧ fillN bs k l.length (someS l) = l
  | [], k, _, _ => ⟨rfl, rfl⟩
  | x :: l, k, h, hz => by
    obtain ⟨ih1, ih2⟩ := fill_some bs l (k + 1) (fun i y hy => by rw [show k + 1 + i = k + (i + 1) by omega]; exact h (i + 1) y (by rw [List.getElem?_cons_succ]; exact hy)) (fun y hy => hz y (by simp [hy]))
    have h0 := h 0 x rfl
    rw [Nat.add_zero] at h0
    unfold someS at ih1 ih2 ⊢
    rw [List.length_cons, cntN, h0, List.filter_cons, ih1]
    by_cases hx : x.kind = 0
    · simp only [hx, decide_true, Bool.not_true, Bool.false_eq_true, if_false, if_true, Nat.zero_add, fillN, h0, ih2, true_and]
      rw [hz x (by simp) hx]
    · simp only [hx, decide_false, Bool.not_false, Bool.false_eq_true, if_false, if_true, fillN, h0, ih2, List.length_cons, and_true]
      omega

-- reading
def rd1 (s : List UInt8) := rSmall 60 (s, false)
def rd2 (s : List UInt8) := rTake (((rd1 s).1 + 7) / 8) (rd1 s).2
def rd3 (s : List UInt8) := rTake 1 (rd2 s).2
def rdW (s : List UInt8) : Nat := ((rd3 s).1.getD 0 0).toNat
def rdC (s : List UInt8) : Nat := cntN (rd2 s).1 0 (rd1 s).1
def rd4 (kind : Int) (s : List UInt8) := rValues (rdW s) kind (rdC s) (rd3 s).2
/-- a column, as it is read, before it is looked at whether it would be written so -/
def readC (kind : Int) (s : List UInt8) : Option (List GV) :=
  if (rd3 s).2.2 = true then none else if (rd4 kind s).2.2 = true ∨ (rd4 kind s).1.length ≠ rdC s then none else some (fillN (rd2 s).1 0 (rd1 s).1 (rd4 kind s).1)
def decO (kind : Int) (s : List UInt8) : Option (List GV) := match readC kind s with
  | none => none
  | some out => if encErr kind out = 0 ∧ encOut kind out = s then some out else none

theorem bestK_eq (kind : Int) (hk : kind = 1 ∨ kind = 2) (so : List GV) : ∀ q : Nat, q ≤ 4 → ∃ wy bl, bestK kind so q = (wy, bl) ∧ (1 ≤ q → ∃ m : Nat, wy = m ∧ m < 4 ∧ bl = writeS m so ∧ (m = 3 → kind = 1))
  | 0, _ => ⟨-1, [], rfl, fun h => by omega⟩
  | q + 1, hq => by
    obtain ⟨wy, bl, h1, h2⟩ := bestK_eq kind hk so q (by omega)
    by_cases h3 : q = 3 ∧ kind = 2
    · exact ⟨wy, bl, bestK_skip h1 h3, fun _ => h2 (by omega)⟩
    · by_cases hc : wy < 0 ∨ (writeS q so).length < bl.length
      · exact ⟨q, writeS q so, bestK_yes h1 h3 hc, fun _ => ⟨q, rfl, by omega, rfl, fun e => hk.resolve_right fun h => h3 ⟨e, h⟩⟩⟩
      · refine ⟨wy, bl, bestK_no h1 hc, fun _ => ?_⟩
        rcases Nat.eq_zero_or_pos q with rfl | h0
        · exfalso
          have e : bestK kind so 0 = (-1, []) := rfl
          rw [e] at h1
          cases h1
          exact hc (.inl (by decide))
        · exact h2 h0
theorem fits_of {kind : Int} {l : List GV} (hi : ∀ x ∈ l, i64 x.num) (hk : kind = 1 ∨ kind = 2) (h : l.any (badIn kind) = false) : (∀ x ∈ someS l, Fits kind x) ∧ (∀ x ∈ l, x.kind = 0 → x = ⟨0, 0, ⟨#[]⟩⟩) := by
  have hb : ∀ x ∈ l, rightB x.kind x.num x.text = true ∧ (x.kind ≠ 0 → x.kind = kind) := fun x hx => by
    have hb := List.any_eq_false.1 h x hx
    unfold badIn at hb
    simp only [Bool.or_eq_true, not_or, Bool.not_eq_true, Bool.not_eq_false', Bool.and_eq_false_iff, bne_eq_false_iff_eq] at hb
    refine ⟨hb.1, fun hne => ?_⟩
    rcases hb.2 with h | h
    · exact absurd h hne
    · exact h
  refine ⟨fun x hx => ?_, fun x hx h0 => ?_⟩
  · obtain ⟨hx1, hx2⟩ := List.mem_filter.1 hx
    have hne : x.kind ≠ 0 := by simpa using hx2
    obtain ⟨h1, h2⟩ := hb x hx1
    have h2 := h2 hne
    refine ⟨hi x hx1, h2, ?_⟩
    rw [h2] at h1
    unfold rightB at h1
    rcases hk with rfl | rfl
    · left
      rw [if_neg (by decide), if_pos rfl] at h1
      exact ⟨rfl, of_decide_eq_true h1⟩
    · right
      rw [if_neg (by decide), if_neg (by decide), if_pos rfl] at h1
      simp only [Bool.and_eq_true, decide_eq_true_eq] at h1
      exact ⟨rfl, h1.1.1, h1.1.2⟩
  · obtain ⟨h1, _⟩ := hb x hx
    obtain ⟨k, n, t⟩ := x
    simp only at h0 h1
    subst h0
    unfold rightB at h1
    rw [if_pos rfl] at h1
    simp only [Bool.and_eq_true, decide_eq_true_eq] at h1
    rw [h1.1, h1.2]
theorem encErr_zero {kind : Int} {l : List GV} (h : encErr kind l = 0) : (kind = 1 ∨ kind = 2) ∧ l.any (badIn kind) = false ∧ l.length ≤ 60 := by
  unfold encErr at h
  split at h
  · omega
  · rename_i h1
    split at h
    · omega
    · rename_i h2
      rw [not_or] at h1
      exact ⟨by omega, by simpa using h1.2, by omega⟩
theorem some_len (l : List GV) : (someS l).length ≤ l.length := List.length_filter_le _ _
theorem readC_enc {kind : Int} {l : List GV} (h : encErr kind l = 0) (hi : ∀ x ∈ l, i64 x.num) : readC kind (encOut kind l) = some l := by
  obtain ⟨hk, hb, hl⟩ := encErr_zero h
  obtain ⟨hf, hz⟩ := fits_of hi hk hb
  obtain ⟨wy, bl, hbk, hbq⟩ := bestK_eq kind hk (someS l) 4 (by omega)
  obtain ⟨m, rfl, hm, rfl, hm3⟩ := hbq (by omega)
  obtain ⟨f1, f2⟩ := fill_some (bitsS l) l 0 (fun i x hx => by rw [Nat.zero_add]; exact bitsS_null l i x hx) hz
  have hsl := some_len l
  have e : encOut kind l = uvarint l.length ++ (bitsS l ++ ([UInt8.ofNat m] ++ writeS m (someS l))) := by
    unfold encOut
    rw [hbk]
    simp
  have e1 : rd1 (encOut kind l) = (l.length, (bitsS l ++ ([UInt8.ofNat m] ++ writeS m (someS l)), false)) := by
    unfold rd1; rw [e, rSmall_enc _ _ (by decide) hl]
  have e2 : rd2 (encOut kind l) = (bitsS l, ([UInt8.ofNat m] ++ writeS m (someS l), false)) := by
    unfold rd2; rw [e1]; simp only; rw [rTake_enc _ _ _ (bitsS_len l).symm]
  have e3 : rd3 (encOut kind l) = ([UInt8.ofNat m], (writeS m (someS l), false)) := by
    unfold rd3; rw [e2]; exact rTake_enc 1 [UInt8.ofNat m] _ rfl
  have eW : rdW (encOut kind l) = m := by
    unfold rdW; rw [e3]; simp only [List.getD_cons_zero]; rw [UInt8.toNat_ofNat']; omega
  have eC : rdC (encOut kind l) = (someS l).length := by
    unfold rdC; rw [e2, e1]; exact f1
  have e4 : rd4 kind (encOut kind l) = (someS l, ([], false)) := by
    unfold rd4
    rw [eW, eC, e3]
    have := rValues_enc m hm hm3 (someS l) (by omega) [] hf
    rw [List.append_nil] at this
    exact this
  unfold readC
  rw [e3, e4, eC, e2, e1]
  simp only
  rw [if_neg (by decide), if_neg (by simp), f2]
theorem decO_enc {kind : Int} {l : List GV} (h : encErr kind l = 0) (hi : ∀ x ∈ l, i64 x.num) : decO kind (encOut kind l) = some l := by
  unfold decO
  rw [readC_enc h hi]
  exact if_pos ⟨h, rfl⟩

-- what was read well is read so, whatever stands behind
theorem decO_back {kind : Int} {s : List UInt8} {m : List GV} (h : decO kind s = some m) : encErr kind m = 0 ∧ encOut kind m = s := by
  unfold decO at h
  split at h
  · cases h
  · split at h
    · cases h; assumption
    · cases h
end Go.Proofs.YtcpllhjhnfmepaaGreatDoor

/- encode.Decode's look at a bit. -/
namespace Go.Proofs.YtcpllhjhnfmepaaGreatDoor
set_option linter.unusedSimpArgs false
set_option linter.unusedVariables false
open Go.RowKit
set_option linter.all false
theorem nullB_at (s : ByteArray) (i : Nat) (h : i / 8 < s.size) : nullB s.data.toList i = s[i / 8].toNat.testBit (i % 8) := by
  unfold nullB
  rw [List.getD_eq_getElem?_getD, List.getElem?_eq_getElem (by exact h)]
  rfl
theorem bit_at (b : UInt8) (c : Nat) (h : c < 8) : (bits .and .u8 ((b.toNat : Int) / 2 ^ c) 1 == 1) = b.toNat.testBit c := by
  have hb := b.toNat_lt
  have e : (b.toNat : Int) / 2 ^ c = ((b.toNat / 2 ^ c : Nat) : Int) := by rw [Int.natCast_ediv, Int.natCast_pow]; rfl
  have hlt : b.toNat / 2 ^ c < 256 := Nat.lt_of_le_of_lt (Nat.div_le_self _ _) hb
  have h2 := (bits_nat .u8 8 (by decide) (fun n h₀ h₁ => by rw [IntKind.wrap_u8]; omega) (b.toNat / 2 ^ c) 1 hlt (by decide)).1
  rw [e, show (1 : Int) = ((1 : Nat) : Int) by rfl, h2, Nat.and_one_is_mod, Nat.testBit_eq_decide_div_mod_eq]
  rcases (by omega : b.toNat / 2 ^ c % 2 = 0 ∨ b.toNat / 2 ^ c % 2 = 1) with h | h <;> rw [h] <;> rfl
set_option maxRecDepth 100000 in
set_option maxHeartbeats 8000000 in
theorem dec1_any (s : ByteArray) (i bk : Nat) (hi : i / 8 < s.size) (hi2 : i ≤ 1000) (w : World) (h : w.cell? ⟨bk, 0, none⟩ = some (.string s)) :
    Calls Tryz.prog 62 #[.int .i64 i, .pointer (some ⟨bk, 0, none⟩)] w fun e w' => e = .returned (.bool (nullB s.data.toList i)) ∧ Ext w w' := by
  have hS := Hp.init w
  have hR := Reads.cell h (Reads.nil w)
  rw [nullB_at s i hi]
  have q0 : (0 : Int) ≤ (i : Int) / 8 := by omega
  have q1 : (i : Int) / 8 < (s.size : Int) := by omega
  have qw : IntKind.i64.wrap ((i : Int) / 8) = (i : Int) / 8 := IntWalk.i64_in _ (by omega)
  have qr : (i : Int).tmod 8 = (i : Int) % 8 := Int.tmod_eq_emod_of_nonneg (by omega)
  have qt : ((i : Int) / 8).toNat = i / 8 := by omega
  have q2 : (0 : Int) ≤ (i : Int) % 8 := by omega
  clear h
  ((try clear hF); (first | have hF := And.intro hS.facts (hR.at hS.ext) | have hF := hS.facts); simp only [HFacts, cellFacts, RFacts, cellOnly, and_true, true_and, Nat.zero_add, Nat.reduceAdd] at hF)
  go_enter Tryz.func62, Tryz.ntmps62
  go_wp2_with (first | ((with_reducible first | refine nhLa ?_ | refine nhLs ?_ | refine nhLd ?_ | refine nhCa ?_ | refine nhCs ?_ | refine nhCd ?_ | refine nhPa ?_ | refine nhPs ?_ | refine nhPd ?_ | refine nhKa ?_ | refine nhKs ?_ | refine nhKd ?_); ((try clear hF); clear hS; intro wk hS; (try simp only [List.set_cons_zero, List.set_cons_succ, heap_size, heap_set_size] at hS); ((try clear hF); (first | have hF := And.intro hS.facts (hR.at hS.ext) | have hF := hS.facts); simp only [HFacts, cellFacts, RFacts, cellOnly, and_true, true_and, Nat.zero_add, Nat.reduceAdd] at hF))) | fail)
  go_ret
  exact ⟨by rw [bit_at _ _ (by omega)]; rfl, hS.ext⟩
end Go.Proofs.YtcpllhjhnfmepaaGreatDoor

/- numbers that are read fit 64 bits. -/
namespace Go.Proofs.YtcpllhjhnfmepaaGreatDoor
set_option linter.unusedSimpArgs false
set_option linter.unusedVariables false
open Go.RowKit
set_option linter.all false
theorem unzig_i64 {u : Nat} (h : u < 18446744073709551616) : i64 (unzig u) := by
  unfold i64 unzig
  split <;> omega
theorem rOne_i64 (kind : Int) (st : RSt) : i64 (rOne kind st).1.num := by
  unfold rOne
  split
  · exact unzig_i64 (rNumber_lt st)
  · exact (show i64 0 from ⟨by decide, by decide⟩)
def I64L (l : List GV) : Prop := ∀ x ∈ l, i64 x.num
theorem I64L.snoc {l : List GV} {x : GV} (h : I64L l) (hx : i64 x.num) : I64L (l ++ [x]) := fun y hy => by
  rcases List.mem_append.1 hy with hy | hy
  · exact h y hy
  · simp only [List.mem_singleton] at hy; subst hy; exact hx
theorem rPlain_i64 (kind : Int) : ∀ (n : Nat) (st : RSt) (acc : List GV), I64L acc → I64L (rPlain kind n st acc).1
  | 0, _, _, h => h
  | n + 1, st, acc, h => rPlain_i64 kind n _ _ (h.snoc (rOne_i64 kind st))
theorem rRuns_i64 (kind : Int) (n : Nat) : ∀ (f : Nat) (st : RSt) (acc : List GV), I64L acc → I64L (rRuns kind n f st acc).1
  | 0, _, _, h => h
  | f + 1, st, acc, h => by
    rw [rRuns]
    split
    · refine rRuns_i64 kind n f _ _ fun y hy => ?_
      rcases List.mem_append.1 hy with hy | hy
      · exact h y hy
      · rw [(List.mem_replicate.1 hy).2]; exact rOne_i64 kind _
    · exact h
theorem rPick_i64 (all : List GV) (ha : I64L all) : ∀ (n : Nat) (st : RSt) (acc : List GV), I64L acc → I64L (rPick all n st acc).1
  | 0, _, _, h => h
  | n + 1, st, acc, h => by
    rw [rPick]
    split
    · rename_i x hx; exact rPick_i64 all ha n _ _ (h.snoc (ha x (List.mem_of_getElem? hx)))
    · exact rPick_i64 all ha n _ _ h
theorem rSteps_i64 : ∀ (n : Nat) (last : Int) (st : RSt) (acc : List GV), I64L acc → I64L (rSteps n last st acc).1
  | 0, _, _, _, h => h
  | n + 1, last, st, acc, h => rSteps_i64 n _ _ _ (h.snoc (wrap_i64 _))
theorem i64l_nil : I64L [] := fun _ h => by cases h
theorem rValues_i64 (way : Nat) (kind : Int) (n : Nat) (st : RSt) : I64L (rValues way kind n st).1 := by
  unfold rValues
  split
  · exact rPlain_i64 kind n st [] i64l_nil
  · split
    · exact rRuns_i64 kind n _ st [] i64l_nil
    · split
      · exact rPick_i64 _ (rPlain_i64 kind _ _ [] i64l_nil) n _ [] i64l_nil
      · split
        · exact rSteps_i64 n 0 st [] i64l_nil
        · exact i64l_nil
theorem fill_i64 (bs : List UInt8) : ∀ (n i : Nat) (l : List GV), I64L l → I64L (fillN bs i n l)
  | 0, _, _, _ => i64l_nil
  | n + 1, i, l, h => by
    unfold fillN
    split
    · intro y hy
      rcases List.mem_cons.1 hy with rfl | hy
      · exact (show i64 0 from ⟨by decide, by decide⟩)
      · exact fill_i64 bs n _ l h y hy
    · cases l with
      | nil => exact i64l_nil
      | cons x l =>
        intro y hy
        rcases List.mem_cons.1 hy with rfl | hy
        · exact h _ (by simp)
        · exact fill_i64 bs n _ l (fun z hz => h z (by simp [hz])) y hy
theorem fill_len (bs : List UInt8) : ∀ (n i : Nat) (l : List GV), l.length = cntN bs i n → (fillN bs i n l).length = n
  | 0, _, _, _ => rfl
  | n + 1, i, l, h => by
    rw [cntN] at h
    unfold fillN
    split
    · rename_i hb
      rw [if_pos hb] at h
      rw [List.length_cons, fill_len bs n _ l (by omega)]
    · rename_i hb
      rw [if_neg hb] at h
      cases l with
      | nil => rw [List.length_nil] at h; omega
      | cons x l => rw [List.length_cons] at h; simp only [List.length_cons]; rw [fill_len bs n _ l (by omega)]
theorem fillN_no {bs : List UInt8} {i n : Nat} {x : GV} {l : List GV} (h : nullB bs i = false) : fillN bs i (n + 1) (x :: l) = x :: fillN bs (i + 1) n l := by
  simp only [fillN, h, Bool.false_eq_true, if_false]
theorem fillN_yes {bs : List UInt8} {i n : Nat} {l : List GV} (h : nullB bs i = true) : fillN bs i (n + 1) l = ⟨0, 0, ⟨#[]⟩⟩ :: fillN bs (i + 1) n l := by
  simp only [fillN, h, if_true]
theorem cntN_no {bs : List UInt8} {i n : Nat} (h : nullB bs i = false) : cntN bs i (n + 1) = cntN bs (i + 1) n + 1 := by
  simp only [cntN, h, Bool.false_eq_true, if_false, Nat.add_comm]
theorem cntN_yes {bs : List UInt8} {i n : Nat} (h : nullB bs i = true) : cntN bs i (n + 1) = cntN bs (i + 1) n := by
  simp only [cntN, h, if_true, Nat.zero_add]
end Go.Proofs.YtcpllhjhnfmepaaGreatDoor

/- reader.values, the way of runs; all ways together. -/
namespace Go.Proofs.YtcpllhjhnfmepaaGreatDoor
set_option linter.all false
set_option linter.unusedSimpArgs false
set_option linter.unusedVariables false
open Go.RowKit
open Go.Lib (uvarint zigzag)
theorem runs_stop {kind : Int} {n f : Nat} {st : RSt} {acc : List GV} (h : ¬(acc.length < n ∧ st.2 = false)) : rRuns kind n f st acc = (acc, st) := by
  cases f with
  | zero => rfl
  | succ f => rw [rRuns, if_neg h]
theorem Hp.rv1 {B : Nat} {w0 w : World} {L : List Item} {S : Nat} {t : TypeId} {x : GV} (h : Hp B w0 w (.blk S [.int .i64 x.kind, .int .i64 x.num, .string x.text] t :: L)) : RV w (some ⟨S, 0, none⟩) [x] := RV.block h.head.2 rfl
set_option maxRecDepth 100000 in
set_option maxHeartbeats 8000000 in
theorem values1 {B : Nat} {w0 w : World} {L : List Item} (g : Nat) (s : ByteArray) (b : Bool) (kind : Int) (n : Nat) (hn : n ≤ 1000) (hl : s.size ≤ 100000) (hS : Hp B w0 w (.blk g [.string s, .bool b] 126 :: L)) :
    Calls Tryz.prog 63 #[.pointer (some ⟨g, 0, none⟩), .int .i64 1, .int .i64 kind, .int .i64 n] w (RResL B w0 L g (rRuns kind n (n + 1) (s.data.toList, b) [])) := by
  obtain ⟨R, hR0⟩ : ∃ R, R = rRuns kind n (n + 1) (s.data.toList, b) [] := ⟨_, rfl⟩
  rw [← hR0]
  have HR := Lib.hid hR0
  clear hR0
  replace hS := hS.nilRow 45 3
  ((try clear hF); (first | have hF := And.intro hS.facts (hR.at hS.ext) | have hF := hS.facts); simp only [HFacts, cellFacts, RFacts, cellOnly, and_true, true_and, Nat.zero_add, Nat.reduceAdd] at hF)
  go_enter Tryz.func63, Tryz.ntmps63
  go_wp2_with (first | ((with_reducible first | refine nhLa ?_ | refine nhLs ?_ | refine nhLd ?_ | refine nhCa ?_ | refine nhCs ?_ | refine nhCd ?_ | refine nhPa ?_ | refine nhPs ?_ | refine nhPd ?_ | refine nhKa ?_ | refine nhKs ?_ | refine nhKd ?_); ((try clear hF); clear hS; intro wk hS; (try simp only [List.set_cons_zero, List.set_cons_succ, heap_size, heap_set_size] at hS); ((try clear hF); (first | have hF := And.intro hS.facts (hR.at hS.ext) | have hF := hS.facts); simp only [HFacts, cellFacts, RFacts, cellOnly, and_true, true_and, Nat.zero_add, Nat.reduceAdd] at hF))) | fail)
  go_loopg [9] (2 * n + 1) (fun gk v wr => ∃ (A : Option Addr) (cap : Nat) (os : List GV) (s' : ByteArray) (b' : Bool) (f : Nat), v = .slice A os.length cap ∧ os.length ≤ n ∧ Hid (2 * (n - os.length) + (if b' = true then 0 else 1) ≤ gk) ∧ Hid (R = rRuns kind n f (s'.data.toList, b') os) ∧ Hid (b' = false → n + 1 ≤ os.length + f) ∧ s'.size ≤ 100000 ∧ Hp B w0 wr (vRow A cap os :: .blk g [.string s', .bool b'] 126 :: L))
  case atStart => exact ⟨none, 0, [], s, b, n + 1, rfl, Nat.zero_le _, Lib.hid (by simp; split <;> omega), HR, Lib.hid (fun _ => by simp), hl, hS⟩
  case round =>
    clear hS hF hl
    obtain ⟨A1, cap1, os, s', b', f, rfl, hol, hgk, hr, hff, hsl, hS⟩ := hrel
    by_cases hlt : os.length < n
    · cases b' with
      | true =>
        have HFIN := Lib.hid (runs_stop (kind := kind) (n := n) (f := f) (st := (s'.data.toList, true)) (acc := os) (by simp))
        ((try clear hF); (first | have hF := And.intro hS.facts (hR.at hS.ext) | have hF := hS.facts); simp only [HFacts, cellFacts, RFacts, cellOnly, and_true, true_and, Nat.zero_add, Nat.reduceAdd] at hF)
        go_wp2_with (first | ((with_reducible first | refine nhLa ?_ | refine nhLs ?_ | refine nhLd ?_ | refine nhCa ?_ | refine nhCs ?_ | refine nhCd ?_ | refine nhPa ?_ | refine nhPs ?_ | refine nhPd ?_ | refine nhKa ?_ | refine nhKs ?_ | refine nhKd ?_); ((try clear hF); clear hS; intro wk hS; (try simp only [List.set_cons_zero, List.set_cons_succ, heap_size, heap_set_size] at hS); ((try clear hF); (first | have hF := And.intro hS.facts (hR.at hS.ext) | have hF := hS.facts); simp only [HFacts, cellFacts, RFacts, cellOnly, and_true, true_and, Nat.zero_add, Nat.reduceAdd] at hF))) | fail)
        go_ret
        exact ⟨A1, cap1, os, s', true, rfl, Lib.hid (by rw [hr.out, HFIN.out]), Lib.hid (by rw [hr.out, HFIN.out]), hS⟩
      | false =>
        obtain ⟨f', rfl⟩ : ∃ f', f = f' + 1 := ⟨f - 1, by have := hff.out rfl; omega⟩
        obtain ⟨q, hq⟩ : ∃ q, q = rSmall (n - os.length) (s'.data.toList, false) := ⟨_, rfl⟩
        have HO := fun (W : World) (L : List Item) hS => rsmall_any (w0 := w0) (w := W) (B := B) (L := L) g s' false (n - os.length) hsl (by omega) hS
        have hlen := rSmall_len (n - os.length) (s'.data.toList, false)
        have hle := rSmall_le (n - os.length) (s'.data.toList, false)
        rw [← hq] at HO hlen hle
        have HQ := Lib.hid hq
        clear hq
        obtain ⟨ix, st⟩ := q
        have HLEN := Lib.hid hlen
        have hle : ix ≤ n - os.length := hle
        have HO2 := Lib.hid (show ∀ (W : World) (L : List Item), Hp B w0 W (.blk g [.string s', .bool false] 126 :: L) → Calls Tryz.prog 60 #[.pointer (some ⟨g, 0, none⟩), .int .i64 ((n : Int) - os.length)] W (RRes B w0 L g (.int .i64 (ix : Int)) st) from fun W L h => by
          have := HO W L h
          rw [show ((n - os.length : Nat) : Int) = (n : Int) - os.length by omega] at this
          exact this)
        clear HO hlen
        obtain ⟨r, hr0⟩ : ∃ r, r = rOne kind st := ⟨_, rfl⟩
        have HO3 := Lib.hid (fun (W : World) (L : List Item) (s2 : ByteArray) (h2 : s2.data.toList = st.1) hS => show Calls Tryz.prog 85 #[.pointer (some ⟨g, 0, none⟩), .int .i64 kind] W (RResV B w0 L g r.1 r.2) from by
          have := rone_any (w0 := w0) (w := W) (B := B) (L := L) g s2 st.2 kind (size_le h2 HLEN.out hsl) hS
          rw [h2] at this
          rw [hr0]
          exact this)
        have HLEN2 := Lib.hid (show r.2.1.length ≤ s'.data.toList.length from by rw [hr0]; exact Nat.le_trans (rOne_len kind st) HLEN.out)
        have HST := Lib.hid (show rRuns kind n (f' + 1) (s'.data.toList, false) os = rRuns kind n f' (r.2.1, r.2.2 || decide (ix = 0)) (os ++ List.replicate ix r.1) by
          rw [rRuns, if_pos ⟨hlt, rfl⟩, ← HQ.out, hr0])
        clear hr0
        have f1 : (os.length : Int) < n := by omega
        ((try clear hF); (first | have hF := And.intro hS.facts (hR.at hS.ext) | have hF := hS.facts); simp only [HFacts, cellFacts, RFacts, cellOnly, and_true, true_and, Nat.zero_add, Nat.reduceAdd] at hF)
        go_wp2_with (first | ((with_reducible first | refine nhLa ?_ | refine nhLs ?_ | refine nhLd ?_ | refine nhCa ?_ | refine nhCs ?_ | refine nhCd ?_ | refine nhPa ?_ | refine nhPs ?_ | refine nhPd ?_ | refine nhKa ?_ | refine nhKs ?_ | refine nhKd ?_); ((try clear hF); clear hS; intro wk hS; (try simp only [List.set_cons_zero, List.set_cons_succ, heap_size, heap_set_size] at hS); ((try clear hF); (first | have hF := And.intro hS.facts (hR.at hS.ext) | have hF := hS.facts); simp only [HFacts, cellFacts, RFacts, cellOnly, and_true, true_and, Nat.zero_add, Nat.reduceAdd] at hF))) | (go_at_call 60; (with_reducible refine Calls.mono (HO2.out _ _ (hS.front 1 rfl)) ?_); clear hS; rintro e wk ⟨s2, rfl, hs2, hS⟩; (try simp only [List.eraseIdx_cons_zero, List.eraseIdx_cons_succ, List.set_cons_zero, List.set_cons_succ] at hS); ((try clear hF); (first | have hF := And.intro hS.facts (hR.at hS.ext) | have hF := hS.facts); simp only [HFacts, cellFacts, RFacts, cellOnly, and_true, true_and, Nat.zero_add, Nat.reduceAdd] at hF)) | (go_at_call 85; (with_reducible refine Calls.mono (HO3.out _ _ s2 hs2.out (hS.front 0 rfl)) ?_); clear hS; rintro e wk ⟨s3, x, rfl, hx, hs3, hS⟩; (try simp only [List.eraseIdx_cons_zero, List.eraseIdx_cons_succ, List.set_cons_zero, List.set_cons_succ] at hS); ((try clear hF); (first | have hF := And.intro hS.facts (hR.at hS.ext) | have hF := hS.facts); simp only [HFacts, cellFacts, RFacts, cellOnly, and_true, true_and, Nat.zero_add, Nat.reduceAdd] at hF)) | (go_at_call 53; (with_reducible refine Calls.mono (repeat_any x _ _ ix (by omega) _ hS.rv1) ?_); rintro e wk ⟨gr, capr, rfl, hW⟩; replace hS := hS.join hW; clear hW; simp only [List.cons_append, List.nil_append] at hS; ((try clear hF); (first | have hF := And.intro hS.facts (hR.at hS.ext) | have hF := hS.facts); simp only [HFacts, cellFacts, RFacts, cellOnly, and_true, true_and, Nat.zero_add, Nat.reduceAdd] at hF)) | (at_builtin; refine wpList_append_row Tryz.elem_vals rfl (.tmp 49) (.tmp 55) rfl (hS.front 3 rfl) 0 rfl rfl rfl (cellsV_one _) (by omega) (by omega) ?_; clear hS; intro Ab capb wk hS; (try simp only [List.eraseIdx_cons_zero, List.eraseIdx_cons_succ, List.set_cons_zero, List.set_cons_succ] at hS); ((try clear hF); (first | have hF := And.intro hS.facts (hR.at hS.ext) | have hF := hS.facts); simp only [HFacts, cellFacts, RFacts, cellOnly, and_true, true_and, Nat.zero_add, Nat.reduceAdd] at hF)))
        · rename_i hbt
          have hS2 := (hS.put (i := 3) (j := 1) (u := .bool true) rfl).sub (M := [.row 45 3 Ab (os.length + ix) capb (cellsV os ++ cellsV (List.replicate ix x)), .blk g [.string s3, .bool true] 126] ++ L) (by simp)
          go_roundg (2 * (n - (os.length + ix)))
          case rel =>
            refine ⟨Ab, capb, os ++ List.replicate ix x, s3, true, f', by simp, by simp; omega, Lib.hid (by simp), Lib.hid ?_, Lib.hid (by simp), size_le hs3.out HLEN2.out hsl, ?_⟩
            · rw [hr.out, HST.out, hx.out, hs3.out, hbt, Bool.true_or]
            · rw [← cellsV_append] at hS2
              unfold vRow
              rw [List.length_append, List.length_replicate]
              exact hS2
          case measure => have := hgk.out; simp at this; omega
        · rename_i hbt
          have hbt : r.2.2 = false := by simpa using hbt
          by_cases hix : ix = 0
          · subst hix
            have hS2 := (hS.put (i := 3) (j := 1) (u := .bool (((0 : Nat) : Int) == 0)) rfl).sub (M := [.row 45 3 Ab (os.length + 0) capb (cellsV os ++ cellsV (List.replicate 0 x)), .blk g [.string s3, .bool true] 126] ++ L) (by simp)
            go_roundg (2 * (n - os.length))
            case rel =>
              refine ⟨Ab, capb, os ++ List.replicate 0 x, s3, true, f', by simp, by simp; omega, Lib.hid (by simp), Lib.hid ?_, Lib.hid (by simp), size_le hs3.out HLEN2.out hsl, ?_⟩
              · rw [hr.out, HST.out, hx.out, hs3.out, hbt]; rfl
              · rw [← cellsV_append] at hS2
                unfold vRow
                rw [List.length_append, List.length_replicate]
                exact hS2
            case measure => have := hgk.out; simp at this; omega
          · have hxb : ((ix : Int) == 0) = false := by simp [hix]
            have hS2 := (hS.put (i := 3) (j := 1) (u := .bool ((ix : Int) == 0)) rfl).sub (M := [.row 45 3 Ab (os.length + ix) capb (cellsV os ++ cellsV (List.replicate ix x)), .blk g [.string s3, .bool false] 126] ++ L) (by simp [hxb])
            go_roundg (2 * (n - (os.length + ix)) + 1)
            case rel =>
              refine ⟨Ab, capb, os ++ List.replicate ix x, s3, false, f', by simp, by simp; omega, Lib.hid (by simp), Lib.hid ?_, Lib.hid ?_, size_le hs3.out HLEN2.out hsl, ?_⟩
              · rw [hr.out, HST.out, hx.out, hs3.out, hbt, decide_eq_false hix]; rfl
              · intro _
                have := hff.out trivial
                rw [List.length_append, List.length_replicate]
                omega
              · rw [← cellsV_append] at hS2
                unfold vRow
                rw [List.length_append, List.length_replicate]
                exact hS2
            case measure => have := hgk.out; simp at this; omega
    · have HFIN := Lib.hid (runs_stop (kind := kind) (n := n) (f := f) (st := (s'.data.toList, b')) (acc := os) (by omega))
      ((try clear hF); (first | have hF := And.intro hS.facts (hR.at hS.ext) | have hF := hS.facts); simp only [HFacts, cellFacts, RFacts, cellOnly, and_true, true_and, Nat.zero_add, Nat.reduceAdd] at hF)
      go_wp2_with (first | ((with_reducible first | refine nhLa ?_ | refine nhLs ?_ | refine nhLd ?_ | refine nhCa ?_ | refine nhCs ?_ | refine nhCd ?_ | refine nhPa ?_ | refine nhPs ?_ | refine nhPd ?_ | refine nhKa ?_ | refine nhKs ?_ | refine nhKd ?_); ((try clear hF); clear hS; intro wk hS; (try simp only [List.set_cons_zero, List.set_cons_succ, heap_size, heap_set_size] at hS); ((try clear hF); (first | have hF := And.intro hS.facts (hR.at hS.ext) | have hF := hS.facts); simp only [HFacts, cellFacts, RFacts, cellOnly, and_true, true_and, Nat.zero_add, Nat.reduceAdd] at hF))) | fail)
      go_ret
      exact ⟨A1, cap1, os, s', b', rfl, Lib.hid (by rw [hr.out, HFIN.out]), Lib.hid (by rw [hr.out, HFIN.out]), hS⟩
theorem values_any {B : Nat} {w0 w : World} {L : List Item} (g : Nat) (s : ByteArray) (b : Bool) (way : Nat) (kind : Int) (n : Nat) (hn : n ≤ 1000) (hl : s.size ≤ 100000) (hS : Hp B w0 w (.blk g [.string s, .bool b] 126 :: L)) :
    Calls Tryz.prog 63 #[.pointer (some ⟨g, 0, none⟩), .int .i64 way, .int .i64 kind, .int .i64 n] w (RResL B w0 L g (rValues way kind n (s.data.toList, b))) := by
  unfold rValues
  by_cases h0 : way = 0
  · subst h0; rw [if_pos rfl]; exact values0 g s b kind n hn hl hS
  · rw [if_neg h0]
    by_cases h1 : way = 1
    · subst h1; rw [if_pos rfl]; exact values1 g s b kind n hn hl hS
    · rw [if_neg h1]
      by_cases h2 : way = 2
      · subst h2; rw [if_pos rfl]; exact values2 g s b kind n hn hl hS
      · rw [if_neg h2]
        by_cases h3 : way = 3
        · subst h3; rw [if_pos rfl]; exact values3 g s b kind n hn hl hS
        · rw [if_neg h3]; exact values_bad g s b kind way n (by omega) hS
end Go.Proofs.YtcpllhjhnfmepaaGreatDoor
