/- What is written is read back; what was read well is read so, whatever stands behind it: the plain law of encode. -/
import Derived.Test.YtieongfdleobpaaVs
import Derived.Test.YtieongfdleobpaaEnc
namespace Go.Proofs.Ytieongfdleobpaa
set_option linter.unusedSimpArgs false
set_option linter.unusedVariables false
open Go.RowKit
set_option linter.all false
open Go.Lib (uvarint zigzag)
theorem rNumF_enc : ∀ (m i acc u : Nat) (r : List UInt8), m + i = 9 → u < 2 ^ (7 * (m + 1)) → acc + u * 2 ^ (7 * i) < 18446744073709551616 → rNumF i acc (uvarint u ++ r) = some (acc + u * 2 ^ (7 * i), r)
  | m, i, acc, u, r, hm, hu, ht => by
    by_cases h : u < 128
    · have e : u.toUInt8.toNat = u := by rw [Nat.toUInt8_eq, UInt8.toNat_ofNat']; omega
      rw [Lib.uvarint_small h, List.cons_append, List.nil_append, rNumF, if_neg (by omega), e, if_pos h, Nat.mod_eq_of_lt h, Nat.mod_eq_of_lt ht]
    · cases m with
      | zero => omega
      | succ m =>
        have e : (u % 128 + 128).toUInt8.toNat = u % 128 + 128 := by rw [Nat.toUInt8_eq, UInt8.toNat_ofNat']; omega
        have hp : 2 ^ (7 * (i + 1)) = 128 * 2 ^ (7 * i) := by rw [Nat.mul_add, Nat.pow_add, Nat.mul_comm]
        have hp2 : 2 ^ (7 * (m + 1 + 1)) = 128 * 2 ^ (7 * (m + 1)) := by rw [show 7 * (m + 1 + 1) = 7 * (m + 1) + 7 by omega, Nat.pow_add, Nat.mul_comm]
        have ht2 : acc + u % 128 * 2 ^ (7 * i) + u / 128 * 2 ^ (7 * (i + 1)) = acc + u * 2 ^ (7 * i) := by
          rw [hp, ← Nat.mul_assoc, Nat.add_assoc, ← Nat.add_mul, show u % 128 + u / 128 * 128 = u by omega]
        rw [Lib.uvarint_big (by omega), List.cons_append, rNumF, if_neg (by omega), e, if_neg (by omega), show (u % 128 + 128) % 128 = u % 128 by omega, Nat.mod_eq_of_lt (Nat.lt_of_le_of_lt (by rw [← ht2]; exact Nat.le_add_right _ _) ht), rNumF_enc m (i + 1) _ (u / 128) r (by omega) (by rw [hp2] at hu; omega) (by rw [ht2]; exact ht), ht2]
theorem rNumber_enc (u : Nat) (hu : u < 18446744073709551616) (r : List UInt8) (b : Bool) : rNumber (uvarint u ++ r, b) = (u, (r, b)) := by
  have := rNumF_enc 9 0 0 u r rfl (Nat.lt_of_lt_of_le hu (by decide)) (by simpa using hu)
  rw [Nat.zero_add, Nat.mul_zero, Nat.pow_zero, Nat.mul_one] at this
  unfold rNumber
  simp only [this]
theorem unzig_zig (x : Int) : unzig (zigzag x) = x := by
  unfold unzig zigzag
  split <;> split <;> omega
theorem rSigned_enc (x : Int) (hx : i64 x) (r : List UInt8) (b : Bool) : rSigned (uvarint (zigzag x) ++ r, b) = (x, (r, b)) := by
  unfold rSigned
  rw [rNumber_enc _ (Lib.zigzag_lt hx.1 hx.2), unzig_zig]
theorem rSmall_enc (m u : Nat) (hm : m < 18446744073709551616) (hu : u ≤ m) (r : List UInt8) (b : Bool) : rSmall m (uvarint u ++ r, b) = (u, (r, b)) := by
  unfold rSmall
  rw [rNumber_enc u (by omega), if_neg (by omega)]
theorem rTake_enc (n : Nat) (l r : List UInt8) (h : n = l.length) : rTake n (l ++ r, false) = (l, (r, false)) := by
  subst h
  unfold rTake
  rw [if_neg (by simp), List.take_left, List.drop_left]
/-- a value of a kind, such as may be -/
def Fits (kind : Int) (x : GV) : Prop := i64 x.num ∧ x.kind = kind ∧ (kind = 1 ∧ x.text = ⟨#[]⟩ ∨ kind = 2 ∧ x.num = 0 ∧ x.text.size ≤ 40)
theorem rOne_enc {kind : Int} {x : GV} (h : Fits kind x) (r : List UInt8) : rOne kind (encV x ++ r, false) = (x, (r, false)) := by
  obtain ⟨hi, hk, h⟩ := h
  obtain ⟨k, n, t⟩ := x
  simp only at hi hk h
  subst hk
  rcases h with ⟨rfl, rfl⟩ | ⟨rfl, rfl, hs⟩
  · unfold rOne encV
    rw [if_pos rfl, if_pos rfl, rSigned_enc n hi]
  · unfold rOne encV
    rw [if_neg (by decide), if_neg (show ¬ (2 : Int) = 1 by decide)]
    simp only [List.append_assoc]
    rw [rSmall_enc 40 _ (by decide) hs]
    simp only
    rw [rTake_enc _ _ _ (by rw [size_cast])]
theorem rPlain_enc {kind : Int} : ∀ (l acc : List GV) (r : List UInt8), (∀ x ∈ l, Fits kind x) → rPlain kind l.length (l.flatMap encV ++ r, false) acc = (acc ++ l, (r, false))
  | [], acc, r, _ => by simp [rPlain]
  | x :: l, acc, r, h => by
    rw [List.length_cons, rPlain, List.flatMap_cons, List.append_assoc, rOne_enc (h x (by simp))]
    simp only
    rw [rPlain_enc l _ r fun y hy => h y (by simp [hy])]
    simp
theorem tw_eq (x : GV) : ∀ l : List GV, l = List.replicate (l.takeWhile fun y => eqG y x).length x ++ l.dropWhile fun y => eqG y x
  | [] => rfl
  | y :: l => by
    rw [List.takeWhile_cons, List.dropWhile_cons]
    split
    · rename_i h
      have := (eqG_iff y x).1 h
      subst this
      rw [List.length_cons, List.replicate_succ, List.cons_append, ← tw_eq y l]
    · simp
theorem rRuns_enc {kind : Int} (n : Nat) (hn : n < 1000) : ∀ (f : Nat) (l acc : List GV) (r : List UInt8), l.length < f → acc.length + l.length = n → (∀ x ∈ l, Fits kind x) → rRuns kind n f (runsS l ++ r, false) acc = (acc ++ l, (r, false))
  | 0, l, acc, r, hf, _, _ => by omega
  | f + 1, [], acc, r, _, hn2, _ => by
    rw [rRuns, if_neg (by simp only [List.length_nil] at hn2; omega), runsS]
    simp
  | f + 1, x :: l, acc, r, hf, hn2, h => by
    have e := tw_eq x l
    have h5 : (l.takeWhile fun y => eqG y x).length ≤ l.length := (List.takeWhile_sublist _).length_le
    have h6 := len_dropWhile (fun y => eqG y x) l
    simp only [List.length_cons] at hf hn2
    rw [rRuns, if_pos ⟨by omega, rfl⟩, runsS]
    simp only [List.append_assoc]
    rw [rSmall_enc (n - acc.length) _ (by omega) (by omega)]
    simp only
    rw [rOne_enc (h x (by simp))]
    simp only
    rw [decide_eq_false (by omega), Bool.or_false]
    have el : List.replicate (1 + (l.takeWhile fun y => eqG y x).length) x ++ (l.dropWhile fun y => eqG y x) = x :: l := by
      rw [Nat.add_comm, List.replicate_succ, List.cons_append, ← e]
    have ell := congrArg List.length el
    rw [List.length_append, List.length_replicate, List.length_cons] at ell
    rw [rRuns_enc n hn f (l.dropWhile fun y => eqG y x) _ r (by omega) (by rw [List.length_append, List.length_replicate]; omega) (fun y hy => h y (by simp [(List.dropWhile_sublist _).subset hy])), List.append_assoc, el]
theorem idxP_at (p : GV → Bool) : ∀ (l : List GV) (k : Nat), 0 ≤ idxP p k l → ∃ y, l[(idxP p k l).toNat - k]? = some y ∧ p y = true ∧ k ≤ (idxP p k l).toNat
  | [], k, h => by simp [idxP] at h
  | x :: l, k, h => by
    unfold idxP at h ⊢
    split
    · rename_i hx
      exact ⟨x, by simp, hx, by simp⟩
    · rename_i hx
      rw [if_neg hx] at h
      obtain ⟨y, h1, h2, h3⟩ := idxP_at p l (k + 1) h
      refine ⟨y, ?_, h2, by omega⟩
      rw [show (idxP p (k + 1) l).toNat - k = (idxP p (k + 1) l).toNat - (k + 1) + 1 by omega, List.getElem?_cons_succ]
      exact h1
theorem rPick_enc (all : List GV) (ha : all.length ≤ 60) : ∀ (l acc : List GV) (r : List UInt8), (∀ x ∈ l, x ∈ all) → rPick all l.length (l.flatMap (fun x => uvarint (idxP (eqG x) 0 all).toNat) ++ r, false) acc = (acc ++ l, (r, false))
  | [], acc, r, _ => by simp [rPick]
  | x :: l, acc, r, h => by
    obtain ⟨y, h1, h2, h3⟩ := idxP_at (eqG x) all 0 (idx_mem (h x (by simp)))
    have h4 := (idxP_range (eqG x) all 0).2
    have := (eqG_iff x y).1 h2
    subst this
    rw [List.length_cons, rPick, List.flatMap_cons, List.append_assoc, rSmall_enc 60 _ (by decide) (by omega)]
    simp only
    rw [Nat.sub_zero] at h1
    simp only [h1]
    rw [rPick_enc all ha l _ r fun y hy => h y (by simp [hy])]
    simp
theorem rSteps_enc : ∀ (l acc : List GV) (last : Int) (r : List UInt8), (∀ x ∈ l, Fits 1 x) → rSteps l.length last (stepsS last l ++ r, false) acc = (acc ++ l, (r, false))
  | [], acc, last, r, _ => by simp [rSteps, stepsS]
  | x :: l, acc, last, r, h => by
    have hx := h x (by simp)
    obtain ⟨hi, hk, ht⟩ := hx
    have ht : x.text = ⟨#[]⟩ := by rcases ht with ht | ht; · exact ht.2
                                   · exact absurd ht.1 (by decide)
    have hw : wrap64 (last + wrap64 (x.num - last)) = x.num := by unfold i64 at hi; unfold wrap64; omega
    rw [List.length_cons, rSteps, stepsS, List.append_assoc, rSigned_enc _ (wrap_i64 _)]
    simp only
    rw [hw, rSteps_enc l _ x.num r fun y hy => h y (by simp [hy])]
    have e : (⟨1, x.num, ⟨#[]⟩⟩ : GV) = x := by obtain ⟨k, n, t⟩ := x; simp only at hk ht; rw [hk, ht]
    rw [e]
    simp
theorem rValues_enc {kind : Int} (way : Nat) (hw : way < 4) (h3 : way = 3 → kind = 1) (l : List GV) (hl : l.length ≤ 60) (r : List UInt8) (h : ∀ x ∈ l, Fits kind x) : rValues way kind l.length (writeS way l ++ r, false) = (l, (r, false)) := by
  rcases (by omega : way = 0 ∨ way = 1 ∨ way = 2 ∨ way = 3) with rfl | rfl | rfl | rfl
  · unfold rValues writeS
    rw [if_pos rfl, if_pos rfl, rPlain_enc l [] r h, List.nil_append]
  · unfold rValues writeS
    rw [if_neg (by decide), if_pos rfl, if_neg (by decide), if_pos rfl, rRuns_enc _ (by omega) _ l [] r (by omega) (by simp) h, List.nil_append]
  · unfold rValues writeS
    have hd := dedup_len l
    rw [if_neg (by decide), if_neg (by decide), if_pos rfl, if_neg (by decide), if_neg (by decide), if_pos rfl]
    unfold wordsS
    simp only [List.append_assoc]
    rw [rSmall_enc _ _ (by omega) hd]
    simp only
    rw [rPlain_enc (dedup l) [] _ (fun x hx => h x (dedup_mem.1 hx)), List.nil_append]
    simp only
    rw [rPick_enc (dedup l) (by omega) l [] r (fun x hx => dedup_mem.2 hx), List.nil_append]
  · unfold rValues writeS
    obtain rfl := h3 rfl
    rw [if_neg (by decide), if_neg (by decide), if_neg (by decide), if_pos rfl, if_neg (by decide), if_neg (by decide), if_neg (by decide), if_pos rfl, rSteps_enc l [] 0 r h, List.nil_append]

-- the bits
def nullB (bs : List UInt8) (i : Nat) : Bool := (bs.getD (i / 8) 0).toNat.testBit (i % 8)
theorem setB_len (bs : List UInt8) (k : Nat) : (setB bs k).length = bs.length := by unfold setB; rw [List.length_set]
theorem nullB_set (bs : List UInt8) (k i : Nat) (hk : k / 8 < bs.length) : nullB (setB bs k) i = (nullB bs i || decide (k = i)) := by
  unfold nullB setB
  have hlt : (bs.getD (k / 8) 0).toNat ||| 2 ^ (k % 8) < 256 := Nat.or_lt_two_pow (n := 8) (bs.getD (k / 8) 0).toNat_lt (Nat.pow_lt_pow_right (by decide) (by omega : k % 8 < 8))
  rw [List.getD_eq_getElem?_getD, List.getElem?_set]
  by_cases h : k / 8 = i / 8
  · rw [if_pos h, if_pos hk, Option.getD_some, UInt8.toNat_ofNat', Nat.mod_eq_of_lt hlt, Nat.testBit_or, Nat.testBit_two_pow, h]
    congr 1
    apply decide_eq_decide.2
    omega
  · rw [if_neg h, ← List.getD_eq_getElem?_getD, decide_eq_false (by intro e; rw [e] at h; exact h rfl), Bool.or_false]
theorem bitsF_null : ∀ (l : List GV) (k : Nat) (bs : List UInt8) (i : Nat), (k + l.length + 7) / 8 ≤ bs.length → nullB (bitsF k l bs) i = (nullB bs i || (decide (k ≤ i) && (match l[i - k]? with | some x => decide (x.kind = 0) | none => false)))
  | [], k, bs, i, _ => by simp [bitsF]
  | x :: l, k, bs, i, h => by
    simp only [List.length_cons] at h
    rw [bitsF, bitsF_null l (k + 1) _ i (by split <;> (try rw [setB_len]) <;> omega)]
    have hn : nullB (if x.kind = 0 then setB bs k else bs) i = (nullB bs i || (decide (x.kind = 0) && decide (k = i))) := by
      split
      · rename_i hx
        rw [nullB_set _ _ _ (by omega), decide_eq_true hx, Bool.true_and]
      · rename_i hx
        rw [decide_eq_false hx, Bool.false_and, Bool.or_false]
    rw [hn, Bool.or_assoc]
    congr 1
    rcases Nat.lt_trichotomy k i with hlt | rfl | hlt
    · rw [decide_eq_false (by omega : ¬ k = i), Bool.and_false, Bool.false_or, decide_eq_true (by omega : k + 1 ≤ i), decide_eq_true (by omega : k ≤ i), show i - k = i - (k + 1) + 1 by omega, List.getElem?_cons_succ]
    · rw [decide_eq_true (rfl : k = k), Bool.and_true, decide_eq_false (by omega : ¬ k + 1 ≤ k), Bool.false_and, Bool.or_false, decide_eq_true (Nat.le_refl k), Bool.true_and, Nat.sub_self]
      rfl
    · rw [decide_eq_false (by omega : ¬ k = i), Bool.and_false, Bool.false_or, decide_eq_false (by omega : ¬ k + 1 ≤ i), decide_eq_false (by omega : ¬ k ≤ i), Bool.false_and, Bool.false_and]
theorem bitsF_len : ∀ (l : List GV) (k : Nat) (bs : List UInt8), (bitsF k l bs).length = bs.length
  | [], k, bs => rfl
  | x :: l, k, bs => by rw [bitsF, bitsF_len l]; split <;> simp only [setB_len]
theorem bitsS_len (l : List GV) : (bitsS l).length = (l.length + 7) / 8 := by unfold bitsS; rw [bitsF_len, List.length_replicate]
theorem nullB_zero (n i : Nat) : nullB (List.replicate n 0) i = false := by
  unfold nullB
  rw [List.getD_eq_getElem?_getD, List.getElem?_replicate]
  split <;> simp
theorem bitsS_null (l : List GV) (i : Nat) (x : GV) (h : l[i]? = some x) : nullB (bitsS l) i = decide (x.kind = 0) := by
  unfold bitsS
  rw [bitsF_null l 0 _ i (by rw [List.length_replicate]; omega), nullB_zero, Bool.false_or, decide_eq_true (Nat.zero_le i), Bool.true_and, Nat.sub_zero, h]

-- what is nothing, and what is not
def cntN (bs : List UInt8) : Nat → Nat → Nat
  | _, 0 => 0
  | i, n + 1 => (if nullB bs i = true then 0 else 1) + cntN bs (i + 1) n
def fillN (bs : List UInt8) : Nat → Nat → List GV → List GV
  | _, 0, _ => []
  | i, n + 1, l => if nullB bs i = true then ⟨0, 0, ⟨#[]⟩⟩ :: fillN bs (i + 1) n l else match l with
    | [] => []
    | x :: l => x :: fillN bs (i + 1) n l
theorem fill_some (bs : List UInt8) : ∀ (l : List GV) (k : Nat), (∀ i x, l[i]? = some x → nullB bs (k + i) = decide (x.kind = 0)) → (∀ x ∈ l, x.kind = 0 → x = ⟨0, 0, ⟨#[]⟩⟩) → cntN bs k l.length = (someS l).length ∧ fillN bs k l.length (someS l) = l
  | [], k, _, _ => ⟨rfl, rfl⟩
  | x :: l, k, h, hz => by
    obtain ⟨ih1, ih2⟩ := fill_some bs l (k + 1) (fun i y hy => by rw [show k + 1 + i = k + (i + 1) by omega]; exact h (i + 1) y (by rw [List.getElem?_cons_succ]; exact hy)) (fun y hy => hz y (by simp [hy]))
    have h0 := h 0 x rfl
    rw [Nat.add_zero] at h0
    unfold someS at ih1 ih2 ⊢
    rw [List.length_cons, cntN, h0, List.filter_cons, ih1]
    by_cases hx : x.kind = 0
    · simp only [hx, decide_true, Bool.not_true, Bool.false_eq_true, if_false, if_true, Nat.zero_add, fillN, h0, ih2, true_and]
      rw [hz x (by simp) hx]
    · simp only [hx, decide_false, Bool.not_false, Bool.false_eq_true, if_false, if_true, fillN, h0, ih2, List.length_cons, and_true]
      omega

-- reading
def rd1 (s : List UInt8) := rSmall 60 (s, false)
def rd2 (s : List UInt8) := rTake (((rd1 s).1 + 7) / 8) (rd1 s).2
def rd3 (s : List UInt8) := rTake 1 (rd2 s).2
def rdW (s : List UInt8) : Nat := ((rd3 s).1.getD 0 0).toNat
def rdC (s : List UInt8) : Nat := cntN (rd2 s).1 0 (rd1 s).1
def rd4 (kind : Int) (s : List UInt8) := rValues (rdW s) kind (rdC s) (rd3 s).2
/-- a column, as it is read, before it is looked at whether it would be written so -/
def readC (kind : Int) (s : List UInt8) : Option (List GV) :=
  if (rd3 s).2.2 = true then none else if (rd4 kind s).2.2 = true ∨ (rd4 kind s).1.length ≠ rdC s then none else some (fillN (rd2 s).1 0 (rd1 s).1 (rd4 kind s).1)
def decO (kind : Int) (s : List UInt8) : Option (List GV) := match readC kind s with
  | none => none
  | some out => if encErr kind out = 0 ∧ encOut kind out = s then some out else none

theorem bestK_eq (kind : Int) (hk : kind = 1 ∨ kind = 2) (so : List GV) : ∀ q : Nat, q ≤ 4 → ∃ wy bl, bestK kind so q = (wy, bl) ∧ (1 ≤ q → ∃ m : Nat, wy = m ∧ m < 4 ∧ bl = writeS m so ∧ (m = 3 → kind = 1))
  | 0, _ => ⟨-1, [], rfl, fun h => by omega⟩
  | q + 1, hq => by
    obtain ⟨wy, bl, h1, h2⟩ := bestK_eq kind hk so q (by omega)
    by_cases h3 : q = 3 ∧ kind = 2
    · exact ⟨wy, bl, bestK_skip h1 h3, fun _ => h2 (by omega)⟩
    · by_cases hc : wy < 0 ∨ (writeS q so).length < bl.length
      · exact ⟨q, writeS q so, bestK_yes h1 h3 hc, fun _ => ⟨q, rfl, by omega, rfl, fun e => hk.resolve_right fun h => h3 ⟨e, h⟩⟩⟩
      · refine ⟨wy, bl, bestK_no h1 hc, fun _ => ?_⟩
        rcases Nat.eq_zero_or_pos q with rfl | h0
        · exfalso
          have e : bestK kind so 0 = (-1, []) := rfl
          rw [e] at h1
          cases h1
          exact hc (.inl (by decide))
        · exact h2 h0
theorem fits_of {kind : Int} {l : List GV} (hi : ∀ x ∈ l, i64 x.num) (hk : kind = 1 ∨ kind = 2) (h : l.any (badIn kind) = false) : (∀ x ∈ someS l, Fits kind x) ∧ (∀ x ∈ l, x.kind = 0 → x = ⟨0, 0, ⟨#[]⟩⟩) := by
  have hb : ∀ x ∈ l, rightB x.kind x.num x.text = true ∧ (x.kind ≠ 0 → x.kind = kind) := fun x hx => by
    have hb := List.any_eq_false.1 h x hx
    unfold badIn at hb
    simp only [Bool.or_eq_true, not_or, Bool.not_eq_true, Bool.not_eq_false', Bool.and_eq_false_iff, bne_eq_false_iff_eq] at hb
    refine ⟨hb.1, fun hne => ?_⟩
    rcases hb.2 with h | h
    · exact absurd h hne
    · exact h
  refine ⟨fun x hx => ?_, fun x hx h0 => ?_⟩
  · obtain ⟨hx1, hx2⟩ := List.mem_filter.1 hx
    have hne : x.kind ≠ 0 := by simpa using hx2
    obtain ⟨h1, h2⟩ := hb x hx1
    have h2 := h2 hne
    refine ⟨hi x hx1, h2, ?_⟩
    rw [h2] at h1
    unfold rightB at h1
    rcases hk with rfl | rfl
    · left
      rw [if_neg (by decide), if_pos rfl] at h1
      exact ⟨rfl, of_decide_eq_true h1⟩
    · right
      rw [if_neg (by decide), if_neg (by decide), if_pos rfl] at h1
      simp only [Bool.and_eq_true, decide_eq_true_eq] at h1
      exact ⟨rfl, h1.1.1, h1.1.2⟩
  · obtain ⟨h1, _⟩ := hb x hx
    obtain ⟨k, n, t⟩ := x
    simp only at h0 h1
    subst h0
    unfold rightB at h1
    rw [if_pos rfl] at h1
    simp only [Bool.and_eq_true, decide_eq_true_eq] at h1
    rw [h1.1, h1.2]
theorem encErr_zero {kind : Int} {l : List GV} (h : encErr kind l = 0) : (kind = 1 ∨ kind = 2) ∧ l.any (badIn kind) = false ∧ l.length ≤ 60 := by
  unfold encErr at h
  split at h
  · omega
  · rename_i h1
    split at h
    · omega
    · rename_i h2
      rw [not_or] at h1
      exact ⟨by omega, by simpa using h1.2, by omega⟩
theorem some_len (l : List GV) : (someS l).length ≤ l.length := List.length_filter_le _ _
theorem readC_enc {kind : Int} {l : List GV} (h : encErr kind l = 0) (hi : ∀ x ∈ l, i64 x.num) : readC kind (encOut kind l) = some l := by
  obtain ⟨hk, hb, hl⟩ := encErr_zero h
  obtain ⟨hf, hz⟩ := fits_of hi hk hb
  obtain ⟨wy, bl, hbk, hbq⟩ := bestK_eq kind hk (someS l) 4 (by omega)
  obtain ⟨m, rfl, hm, rfl, hm3⟩ := hbq (by omega)
  obtain ⟨f1, f2⟩ := fill_some (bitsS l) l 0 (fun i x hx => by rw [Nat.zero_add]; exact bitsS_null l i x hx) hz
  have hsl := some_len l
  have e : encOut kind l = uvarint l.length ++ (bitsS l ++ ([UInt8.ofNat m] ++ writeS m (someS l))) := by
    unfold encOut
    rw [hbk]
    simp
  have e1 : rd1 (encOut kind l) = (l.length, (bitsS l ++ ([UInt8.ofNat m] ++ writeS m (someS l)), false)) := by
    unfold rd1; rw [e, rSmall_enc _ _ (by decide) hl]
  have e2 : rd2 (encOut kind l) = (bitsS l, ([UInt8.ofNat m] ++ writeS m (someS l), false)) := by
    unfold rd2; rw [e1]; simp only; rw [rTake_enc _ _ _ (bitsS_len l).symm]
  have e3 : rd3 (encOut kind l) = ([UInt8.ofNat m], (writeS m (someS l), false)) := by
    unfold rd3; rw [e2]; exact rTake_enc 1 [UInt8.ofNat m] _ rfl
  have eW : rdW (encOut kind l) = m := by
    unfold rdW; rw [e3]; simp only [List.getD_cons_zero]; rw [UInt8.toNat_ofNat']; omega
  have eC : rdC (encOut kind l) = (someS l).length := by
    unfold rdC; rw [e2, e1]; exact f1
  have e4 : rd4 kind (encOut kind l) = (someS l, ([], false)) := by
    unfold rd4
    rw [eW, eC, e3]
    have := rValues_enc m hm hm3 (someS l) (by omega) [] hf
    rw [List.append_nil] at this
    exact this
  unfold readC
  rw [e3, e4, eC, e2, e1]
  simp only
  rw [if_neg (by decide), if_neg (by simp), f2]
theorem decO_enc {kind : Int} {l : List GV} (h : encErr kind l = 0) (hi : ∀ x ∈ l, i64 x.num) : decO kind (encOut kind l) = some l := by
  unfold decO
  rw [readC_enc h hi]
  exact if_pos ⟨h, rfl⟩

-- what was read well is read so, whatever stands behind
def Mono {α : Type} (F : RSt → α × RSt) : Prop := ∀ p b v r q, F (p, b) = (v, (r, false)) → b = false ∧ F (p ++ q, b) = (v, (r ++ q, false))
theorem mono_bind {α β : Type} {F : RSt → α × RSt} {G : α → RSt → β × RSt} (hF : Mono F) (hG : ∀ v, Mono (G v)) : Mono fun st => G (F st).1 (F st).2 := fun p b v r q h => by
  obtain ⟨⟨v1, r1, b1⟩, he⟩ : ∃ x, F (p, b) = x := ⟨_, rfl⟩
  simp only [he] at h
  obtain ⟨rfl, h2⟩ := hG v1 r1 b1 v r q h
  obtain ⟨rfl, h1⟩ := hF p b v1 r1 q he
  refine ⟨rfl, ?_⟩
  simp only [h1]
  exact h2
theorem mono_ret {α : Type} (v : α) : Mono fun st => (v, st) := fun p b v' r q h => by
  cases h
  exact ⟨rfl, rfl⟩
theorem rNumF_app : ∀ (l : List UInt8) (i u v : Nat) (r q : List UInt8), rNumF i u l = some (v, r) → rNumF i u (l ++ q) = some (v, r ++ q)
  | [], _, _, _, _, _, h => by cases h
  | c :: l, i, u, v, r, q, h => by
    rw [List.cons_append, rNumF]
    rw [rNumF] at h
    split
    · rename_i h10; rw [if_pos h10] at h; cases h
    · rename_i h10
      rw [if_neg h10] at h
      split
      · rename_i hc; rw [if_pos hc] at h; cases h; rfl
      · rename_i hc; rw [if_neg hc] at h; exact rNumF_app l _ _ _ _ _ h
theorem mono_number : Mono rNumber := fun p b v r q h => by
  unfold rNumber at h ⊢
  simp only at h ⊢
  split at h
  · rename_i u l hu
    cases h
    rw [rNumF_app _ _ _ _ _ q hu]
    exact ⟨rfl, rfl⟩
  · cases h
theorem mono_signed : Mono rSigned := mono_bind (G := fun u st => (unzig u, st)) mono_number fun u => mono_ret _
theorem mono_small (m : Nat) : Mono (rSmall m) := by
  have := mono_bind (G := fun u st => if m < u then (0, (st.1, true)) else (u, st)) mono_number fun u => (by
    intro p b v r q h
    split at h
    · cases h
    · rename_i hm
      cases h
      exact ⟨rfl, by simp only [if_neg hm]⟩)
  exact this
theorem mono_take (n : Nat) : Mono (rTake n) := fun p b v r q h => by
  unfold rTake at h ⊢
  split at h
  · cases h
  · rename_i hc
    rw [not_or] at hc
    obtain ⟨h1, h2⟩ := hc
    simp only at h1 h2
    cases h
    refine ⟨(Bool.not_eq_true _).mp h2, ?_⟩
    rw [if_neg (by rw [not_or]; simp only [List.length_append]; exact ⟨by omega, h2⟩)]
    simp only
    rw [List.take_append_of_le_length (by omega), List.drop_append_of_le_length (by omega)]
theorem mono_one (kind : Int) : Mono (rOne kind) := by
  by_cases hk : kind = 1
  · have := mono_bind (G := fun (x : Int) st => ((⟨1, x, ⟨#[]⟩⟩ : GV), st)) mono_signed fun u => mono_ret _
    intro p b v r q h
    unfold rOne at h ⊢
    rw [if_pos hk] at h ⊢
    exact this p b v r q h
  · have := mono_bind (G := fun (k : Nat) st => ((⟨2, 0, ⟨(rTake k st).1.toArray⟩⟩ : GV), (rTake k st).2)) (mono_small 40) fun k => mono_bind (G := fun (t : List UInt8) st => ((⟨2, 0, ⟨t.toArray⟩⟩ : GV), st)) (mono_take k) fun t => mono_ret _
    intro p b v r q h
    unfold rOne at h ⊢
    rw [if_neg hk] at h ⊢
    exact this p b v r q h
theorem mono_plain (kind : Int) : ∀ (n : Nat) (acc : List GV), Mono fun st => rPlain kind n st acc
  | 0, acc => mono_ret acc
  | n + 1, acc => mono_bind (G := fun x st => rPlain kind n st (acc ++ [x])) (mono_one kind) fun x => mono_plain kind n _
theorem mono_runs (kind : Int) (n : Nat) : ∀ (f : Nat) (acc : List GV), Mono fun st => rRuns kind n f st acc
  | 0, acc => mono_ret acc
  | f + 1, acc => by
    have hm := mono_bind (G := fun k st => rRuns kind n f ((rOne kind st).2.1, (rOne kind st).2.2 || decide (k = 0)) (acc ++ List.replicate k (rOne kind st).1)) (mono_small (n - acc.length)) fun k =>
      mono_bind (G := fun x st => rRuns kind n f (st.1, st.2 || decide (k = 0)) (acc ++ List.replicate k x)) (mono_one kind) fun x p b v r q h => by
        obtain ⟨h1, h2⟩ := mono_runs kind n f (acc ++ List.replicate k x) p (b || decide (k = 0)) v r q h
        refine ⟨?_, h2⟩
        cases b
        · rfl
        · cases h1
    intro p b v r q h
    simp only [rRuns] at h ⊢
    by_cases hc : acc.length < n ∧ b = false
    · rw [if_pos hc] at h
      rw [if_pos hc]
      exact hm p b v r q h
    · rw [if_neg hc] at h
      rw [if_neg hc]
      cases h
      exact ⟨rfl, rfl⟩
theorem mono_pick (all : List GV) : ∀ (n : Nat) (acc : List GV), Mono fun st => rPick all n st acc
  | 0, acc => mono_ret acc
  | n + 1, acc => by
    have hm := mono_bind (G := fun k st => match all[k]? with
      | some x => rPick all n st (acc ++ [x])
      | none => rPick all n (st.1, true) acc) (mono_small 60) fun k => (by
        cases hk : all[k]? with
        | some x => exact mono_pick all n _
        | none =>
          intro p b v r q h
          have := (mono_pick all n acc p true v r q h).1
          cases this)
    intro p b v r q h
    exact hm p b v r q h
theorem mono_steps : ∀ (n : Nat) (last : Int) (acc : List GV), Mono fun st => rSteps n last st acc
  | 0, last, acc => mono_ret acc
  | n + 1, last, acc => mono_bind (G := fun d st => rSteps n (wrap64 (last + d)) st (acc ++ [(⟨1, wrap64 (last + d), ⟨#[]⟩⟩ : GV)])) mono_signed fun d => mono_steps n (wrap64 (last + d)) (acc ++ [(⟨1, wrap64 (last + d), ⟨#[]⟩⟩ : GV)])
theorem mono_values (way : Nat) (kind : Int) (n : Nat) : Mono (rValues way kind n) := by
  unfold rValues
  by_cases h0 : way = 0
  · simp only [if_pos h0]; exact mono_plain kind n []
  · by_cases h1 : way = 1
    · simp only [if_neg h0, if_pos h1]; exact mono_runs kind n _ []
    · by_cases h2 : way = 2
      · simp only [if_neg h0, if_neg h1, if_pos h2]
        exact mono_bind (G := fun m st => rPick (rPlain kind m st []).1 n (rPlain kind m st []).2 []) (mono_small n) fun m => mono_bind (G := fun all st => rPick all n st []) (mono_plain kind m []) fun all => mono_pick all n []
      · by_cases h3 : way = 3
        · simp only [if_neg h0, if_neg h1, if_neg h2, if_pos h3]; exact mono_steps n 0 []
        · simp only [if_neg h0, if_neg h1, if_neg h2, if_neg h3]
          intro p b v r q h
          cases h
/-- all that readC reads, at once -/
def rdAll (kind : Int) (st : RSt) : (Nat × List UInt8 × List UInt8 × List GV) × RSt :=
  let a := rSmall 60 st
  let b := rTake ((a.1 + 7) / 8) a.2
  let c := rTake 1 b.2
  let d := rValues (c.1.getD 0 0).toNat kind (cntN b.1 0 a.1) c.2
  ((a.1, b.1, c.1, d.1), d.2)
theorem mono_all (kind : Int) : Mono (rdAll kind) :=
  mono_bind (G := fun n st => ((n, (rTake ((n + 7) / 8) st).1, (rTake 1 (rTake ((n + 7) / 8) st).2).1, (rValues ((rTake 1 (rTake ((n + 7) / 8) st).2).1.getD 0 0).toNat kind (cntN (rTake ((n + 7) / 8) st).1 0 n) (rTake 1 (rTake ((n + 7) / 8) st).2).2).1), (rValues ((rTake 1 (rTake ((n + 7) / 8) st).2).1.getD 0 0).toNat kind (cntN (rTake ((n + 7) / 8) st).1 0 n) (rTake 1 (rTake ((n + 7) / 8) st).2).2).2)) (mono_small 60) fun n =>
    mono_bind (G := fun b st => ((n, b, (rTake 1 st).1, (rValues ((rTake 1 st).1.getD 0 0).toNat kind (cntN b 0 n) (rTake 1 st).2).1), (rValues ((rTake 1 st).1.getD 0 0).toNat kind (cntN b 0 n) (rTake 1 st).2).2)) (mono_take _) fun b =>
      mono_bind (G := fun c st => ((n, b, c, (rValues (c.getD 0 0).toNat kind (cntN b 0 n) st).1), (rValues (c.getD 0 0).toNat kind (cntN b 0 n) st).2)) (mono_take 1) fun c =>
        mono_bind (G := fun d st => ((n, b, c, d), st)) (mono_values _ kind _) fun d => mono_ret _
theorem rd_all (kind : Int) (s : List UInt8) : rdAll kind (s, false) = (((rd1 s).1, (rd2 s).1, (rd3 s).1, (rd4 kind s).1), (rd4 kind s).2) := rfl
theorem values_bad_mono {way : Nat} {kind : Int} {n : Nat} {st : RSt} (h : (rValues way kind n st).2.2 = false) : st.2 = false := by
  obtain ⟨p, b⟩ := st
  obtain ⟨⟨v, r, c⟩, he⟩ : ∃ x, rValues way kind n (p, b) = x := ⟨_, rfl⟩
  rw [he] at h
  simp only at h
  subst h
  exact (mono_values way kind n p b v r [] he).1
theorem readC_app {kind : Int} {p : List UInt8} {m : List GV} (h : readC kind p = some m) (q : List UInt8) : readC kind (p ++ q) = some m := by
  unfold readC at h
  split at h
  · cases h
  · rename_i h3
    split at h
    · cases h
    · rename_i h4
      rw [not_or] at h4
      have h4b : (rd4 kind p).2.2 = false := by simpa using h4.1
      have ha := (mono_all kind p false _ (rd4 kind p).2.1 q (by rw [rd_all, ← h4b])).2
      rw [rd_all] at ha
      simp only [Prod.mk.injEq] at ha
      obtain ⟨⟨a1, a2, a3, a4⟩, a5⟩ := ha
      have a6 : (rd4 kind (p ++ q)).2.2 = false := by rw [a5]
      have a7 : (rd3 (p ++ q)).2.2 = false := values_bad_mono a6
      have aC : rdC (p ++ q) = rdC p := by unfold rdC; rw [a1, a2]
      unfold readC
      rw [a7, a6, a4, aC, a2, a1, if_neg (by decide), if_neg (by rw [not_or]; exact ⟨by decide, h4.2⟩)]
      exact h
theorem decO_cut {kind : Int} {l : List GV} (h : encErr kind l = 0) (hi : ∀ x ∈ l, i64 x.num) (c : Nat) (hc : c < (encOut kind l).length) : decO kind ((encOut kind l).take c) = none := by
  unfold decO
  cases hm : readC kind ((encOut kind l).take c) with
  | none => rfl
  | some m =>
    have := readC_app hm ((encOut kind l).drop c)
    rw [List.take_append_drop, readC_enc h hi] at this
    cases this
    simp only
    rw [if_neg]
    rintro ⟨_, he⟩
    have := congrArg List.length he
    rw [List.length_take] at this
    omega
theorem decO_back {kind : Int} {s : List UInt8} {m : List GV} (h : decO kind s = some m) : encErr kind m = 0 ∧ encOut kind m = s := by
  unfold decO at h
  split at h
  · cases h
  · split at h
    · cases h; assumption
    · cases h
end Go.Proofs.Ytieongfdleobpaa
