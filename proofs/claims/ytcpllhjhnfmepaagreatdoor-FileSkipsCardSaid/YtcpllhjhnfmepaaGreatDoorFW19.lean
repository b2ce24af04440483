/- the reader of files: number, text. -/
import Derived.Test.YtcpllhjhnfmepaaGreatDoorFW15
namespace Go.Proofs.YtcpllhjhnfmepaaGreatDoor
set_option linter.all false
set_option linter.unusedSimpArgs false
set_option linter.unusedVariables false
open Go.RowKit
theorem wrap_small7 {x : Nat} (k : Nat) (hk : k < 8) (h : x < 2 ^ (7 * (k + 1))) : wrap64 (x : Int) = x := by
  have h1 : 2 ^ (7 * (k + 1)) ≤ 2 ^ 56 := Nat.pow_le_pow_right (by decide) (by omega)
  have h2 : (2 : Nat) ^ 56 = 72057594037927936 := by decide
  unfold wrap64
  omega
def fNumF : Nat → Nat → Bool → List UInt8 → Option (Nat × Bool × List UInt8)
  | _, _, _, [] => none
  | i, u, b, c :: l => if i = 8 then none else if c.toNat < 128 then some ((u + c.toNat % 128 * 2 ^ (7 * i)) % 18446744073709551616, b || (decide (0 < i) && decide (c.toNat = 0)), l) else fNumF (i + 1) ((u + c.toNat % 128 * 2 ^ (7 * i)) % 18446744073709551616) b l
def fNumber (st : RSt) : Nat × RSt := match fNumF 0 0 st.2 st.1 with
  | some (u, b, l) => (u, (l, b))
  | none => (0, (st.1, true))
/-- the reader at the head has read on: it hands back v -/
def FRes (B : Nat) (w0 : World) (L : List Item) (g : Nat) (v : Value) (st : RSt) (e : Ending) (w' : World) : Prop :=
  ∃ s : ByteArray, e = .returned v ∧ Hid (s.data.toList = st.1) ∧ Hp B w0 w' (.blk g [.string s, .bool st.2] 77 :: L)
set_option maxRecDepth 100000 in
set_option maxHeartbeats 8000000 in
theorem frnumber_any {B : Nat} {w0 w : World} {L : List Item} (g : Nat) (s : ByteArray) (b : Bool) (hl : s.size ≤ 100000) (hS : Hp B w0 w (.blk g [.string s, .bool b] 77 :: L)) :
    Calls Tryz.prog 31 #[.pointer (some ⟨g, 0, none⟩)] w (FRes B w0 L g (.int .i64 (fNumber (s.data.toList, b)).1) (fNumber (s.data.toList, b)).2) := by
  obtain ⟨m, hm⟩ : ∃ m, m = min s.size 8 := ⟨_, rfl⟩
  have hm1 : min (s.size : Int) 8 = m := by omega
  have Hm := Lib.hid hm
  have hm10 : m ≤ 8 := by omega
  have hmn : m ≤ s.size := by omega
  clear hm
  ((try clear hF); (first | have hF := And.intro hS.facts (hR.at hS.ext) | have hF := hS.facts); simp only [HFacts, cellFacts, RFacts, cellOnly, and_true, true_and, Nat.zero_add, Nat.reduceAdd] at hF)
  go_enter Tryz.func31, Tryz.ntmps31
  go_wp2_with (first | ((with_reducible first | refine nhLa ?_ | refine nhLs ?_ | refine nhLd ?_ | refine nhCa ?_ | refine nhCs ?_ | refine nhCd ?_ | refine nhPa ?_ | refine nhPs ?_ | refine nhPd ?_ | refine nhKa ?_ | refine nhKs ?_ | refine nhKd ?_); ((try clear hF); clear hS; intro wk hS; (try simp only [List.set_cons_zero, List.set_cons_succ, heap_size, heap_set_size] at hS); ((try clear hF); (first | have hF := And.intro hS.facts (hR.at hS.ext) | have hF := hS.facts); simp only [HFacts, cellFacts, RFacts, cellOnly, and_true, true_and, Nat.zero_add, Nat.reduceAdd] at hF))) | fail)
  clear hm1
  go_loopw [11, 3, 4] (fun i u _ wr => ∃ (k uk : Nat), i = .int .i64 k ∧ k ≤ m ∧ u = .int .u64 uk ∧ uk < 2 ^ (7 * k) ∧ Hid (fNumF 0 0 b s.data.toList = fNumF k uk b (s.data.toList.drop k)) ∧ Hp B w0 wr (.blk g [.string s, .bool b] 77 :: L)) (fun i _ _ _ => m - (intOf i).toNat)
  case atStart => exact ⟨0, 0, rfl, Nat.zero_le _, rfl, by simp, Lib.hid rfl, hS⟩
  case round =>
    clear hS hF
    obtain ⟨k, uk, rfl, hk, rfl, huk, hf, hS⟩ := hrel
    have HUK := Lib.hid huk
    clear huk
    by_cases hlt : k < m
    · have hks : k < s.size := by omega
      have HU := Lib.hid (or_step s[k] uk k (by omega) HUK.out)
      have HU2 := Lib.hid (or_next s[k].toNat uk k HUK.out)
      have HD := Lib.hid (bytes_drop s k hks)
      have HED := Lib.hid (ext_drop s (k + 1))
      by_cases hlt8 : s[k].toNat < 128
      · have e : fNumF 0 0 b s.data.toList = some ((uk + s[k].toNat % 128 * 2 ^ (7 * k)) % 18446744073709551616, b || (decide (0 < k) && decide (s[k].toNat = 0)), s.data.toList.drop (k + 1)) := by
          rw [hf.out, HD.out, fNumF, if_neg (by omega), if_pos hlt8]
        have e2 : fNumber (s.data.toList, b) = ((uk + s[k].toNat % 128 * 2 ^ (7 * k)) % 18446744073709551616, (s.data.toList.drop (k + 1), b || (decide (0 < k) && decide (s[k].toNat = 0)))) := by unfold fNumber; simp only [e]
        rw [e2]
        clear e e2
        have HV := Lib.hid ((congrArg wrap64 HU.out).trans (wrap_small7 k (by omega) HU2.out))
        cases b with
        | true =>
          ((try clear hF); (first | have hF := And.intro hS.facts (hR.at hS.ext) | have hF := hS.facts); simp only [HFacts, cellFacts, RFacts, cellOnly, and_true, true_and, Nat.zero_add, Nat.reduceAdd] at hF)
          go_wp2_with (first | ((with_reducible first | refine nhLa ?_ | refine nhLs ?_ | refine nhLd ?_ | refine nhCa ?_ | refine nhCs ?_ | refine nhCd ?_ | refine nhPa ?_ | refine nhPs ?_ | refine nhPd ?_ | refine nhKa ?_ | refine nhKs ?_ | refine nhKd ?_); ((try clear hF); clear hS; intro wk hS; (try simp only [List.set_cons_zero, List.set_cons_succ, heap_size, heap_set_size] at hS); ((try clear hF); (first | have hF := And.intro hS.facts (hR.at hS.ext) | have hF := hS.facts); simp only [HFacts, cellFacts, RFacts, cellOnly, and_true, true_and, Nat.zero_add, Nat.reduceAdd] at hF))) | fail)
          go_ret
          exact ⟨s.extract (k + 1) s.size, congrArg (fun z => Ending.returned (Value.int .i64 z)) HV.out, HED, by rw [Bool.true_or]; exact hS⟩
        | false =>
          by_cases hk0 : k = 0
          · subst hk0
            have HV2 := HV.out
            rw [show (2 : Int) ^ (7 * 0) = 1 from rfl, Int.mul_one] at HV2
            ((try clear hF); (first | have hF := And.intro hS.facts (hR.at hS.ext) | have hF := hS.facts); simp only [HFacts, cellFacts, RFacts, cellOnly, and_true, true_and, Nat.zero_add, Nat.reduceAdd] at hF)
            go_wp2_with (first | ((with_reducible first | refine nhLa ?_ | refine nhLs ?_ | refine nhLd ?_ | refine nhCa ?_ | refine nhCs ?_ | refine nhCd ?_ | refine nhPa ?_ | refine nhPs ?_ | refine nhPd ?_ | refine nhKa ?_ | refine nhKs ?_ | refine nhKd ?_); ((try clear hF); clear hS; intro wk hS; (try simp only [List.set_cons_zero, List.set_cons_succ, heap_size, heap_set_size] at hS); ((try clear hF); (first | have hF := And.intro hS.facts (hR.at hS.ext) | have hF := hS.facts); simp only [HFacts, cellFacts, RFacts, cellOnly, and_true, true_and, Nat.zero_add, Nat.reduceAdd] at hF))) | fail)
            go_ret
            exact ⟨s.extract (0 + 1) s.size, congrArg (fun z => Ending.returned (Value.int .i64 z)) HV2, HED, by simp only [Nat.lt_irrefl, decide_false, Bool.false_and, Bool.or_false]; exact hS⟩
          · have hkp : (0 : Int) < k := by omega
            have hkd : decide (0 < k) = true := decide_eq_true (by omega)
            by_cases hz : s[k].toNat = 0
            · have hzz : ((s[k].toNat : Int) == 0) = true := by simp [hz]
              have hzd : decide (s[k].toNat = 0) = true := decide_eq_true hz
              rw [hkd, hzd]
              clear hz hk0
              ((try clear hF); (first | have hF := And.intro hS.facts (hR.at hS.ext) | have hF := hS.facts); simp only [HFacts, cellFacts, RFacts, cellOnly, and_true, true_and, Nat.zero_add, Nat.reduceAdd] at hF)
              go_wp2_with (first | ((with_reducible first | refine nhLa ?_ | refine nhLs ?_ | refine nhLd ?_ | refine nhCa ?_ | refine nhCs ?_ | refine nhCd ?_ | refine nhPa ?_ | refine nhPs ?_ | refine nhPd ?_ | refine nhKa ?_ | refine nhKs ?_ | refine nhKd ?_); ((try clear hF); clear hS; intro wk hS; (try simp only [List.set_cons_zero, List.set_cons_succ, heap_size, heap_set_size] at hS); ((try clear hF); (first | have hF := And.intro hS.facts (hR.at hS.ext) | have hF := hS.facts); simp only [HFacts, cellFacts, RFacts, cellOnly, and_true, true_and, Nat.zero_add, Nat.reduceAdd] at hF))) | fail)
              go_ret
              exact ⟨s.extract (k + 1) s.size, congrArg (fun z => Ending.returned (Value.int .i64 z)) HV.out, HED, by skip; exact hS⟩
            · have hzz : ((s[k].toNat : Int) == 0) = false := by simp; omega
              have hzd : decide (s[k].toNat = 0) = false := decide_eq_false hz
              rw [hkd, hzd]
              clear hz hk0
              ((try clear hF); (first | have hF := And.intro hS.facts (hR.at hS.ext) | have hF := hS.facts); simp only [HFacts, cellFacts, RFacts, cellOnly, and_true, true_and, Nat.zero_add, Nat.reduceAdd] at hF)
              go_wp2_with (first | ((with_reducible first | refine nhLa ?_ | refine nhLs ?_ | refine nhLd ?_ | refine nhCa ?_ | refine nhCs ?_ | refine nhCd ?_ | refine nhPa ?_ | refine nhPs ?_ | refine nhPd ?_ | refine nhKa ?_ | refine nhKs ?_ | refine nhKd ?_); ((try clear hF); clear hS; intro wk hS; (try simp only [List.set_cons_zero, List.set_cons_succ, heap_size, heap_set_size] at hS); ((try clear hF); (first | have hF := And.intro hS.facts (hR.at hS.ext) | have hF := hS.facts); simp only [HFacts, cellFacts, RFacts, cellOnly, and_true, true_and, Nat.zero_add, Nat.reduceAdd] at hF))) | fail)
              go_ret
              exact ⟨s.extract (k + 1) s.size, congrArg (fun z => Ending.returned (Value.int .i64 z)) HV.out, HED, by skip; exact hS⟩
      · ((try clear hF); (first | have hF := And.intro hS.facts (hR.at hS.ext) | have hF := hS.facts); simp only [HFacts, cellFacts, RFacts, cellOnly, and_true, true_and, Nat.zero_add, Nat.reduceAdd] at hF)
        go_wp2_with (first | ((with_reducible first | refine nhLa ?_ | refine nhLs ?_ | refine nhLd ?_ | refine nhCa ?_ | refine nhCs ?_ | refine nhCd ?_ | refine nhPa ?_ | refine nhPs ?_ | refine nhPd ?_ | refine nhKa ?_ | refine nhKs ?_ | refine nhKd ?_); ((try clear hF); clear hS; intro wk hS; (try simp only [List.set_cons_zero, List.set_cons_succ, heap_size, heap_set_size] at hS); ((try clear hF); (first | have hF := And.intro hS.facts (hR.at hS.ext) | have hF := hS.facts); simp only [HFacts, cellFacts, RFacts, cellOnly, and_true, true_and, Nat.zero_add, Nat.reduceAdd] at hF))) | fail)
        go_roundw
        case rel =>
          refine ⟨k + 1, _, by go_num, by omega, by rw [HU.out], HU2.out, Lib.hid ?_, hS⟩
          rw [hf.out, HD.out, fNumF, if_neg (by omega), if_neg (by omega)]
        case measure => simp [intOf]; omega
    · obtain rfl : k = m := by omega
      have e : fNumF 0 0 b s.data.toList = none := by
        rw [hf.out]
        have := Hm.out
        rcases Nat.lt_or_ge k s.size with h | h
        · rw [bytes_drop s k h, fNumF, if_pos (by omega)]
        · rw [List.drop_eq_nil_of_le (by rw [size_cast]; exact h)]; rfl
      have e2 : fNumber (s.data.toList, b) = (0, (s.data.toList, true)) := by unfold fNumber; simp only [e]
      have E2 := Lib.hid e2
      clear e e2
      ((try clear hF); (first | have hF := And.intro hS.facts (hR.at hS.ext) | have hF := hS.facts); simp only [HFacts, cellFacts, RFacts, cellOnly, and_true, true_and, Nat.zero_add, Nat.reduceAdd] at hF)
      go_wp2_with (first | ((with_reducible first | refine nhLa ?_ | refine nhLs ?_ | refine nhLd ?_ | refine nhCa ?_ | refine nhCs ?_ | refine nhCd ?_ | refine nhPa ?_ | refine nhPs ?_ | refine nhPd ?_ | refine nhKa ?_ | refine nhKs ?_ | refine nhKd ?_); ((try clear hF); clear hS; intro wk hS; (try simp only [List.set_cons_zero, List.set_cons_succ, heap_size, heap_set_size] at hS); ((try clear hF); (first | have hF := And.intro hS.facts (hR.at hS.ext) | have hF := hS.facts); simp only [HFacts, cellFacts, RFacts, cellOnly, and_true, true_and, Nat.zero_add, Nat.reduceAdd] at hF))) | fail)
      rw [E2.out]
      go_ret
      exact ⟨s, rfl, Lib.hid rfl, hS⟩
theorem fNumF_lt : ∀ (l : List UInt8) (i u : Nat) (b : Bool) (r : Nat × Bool × List UInt8), fNumF i u b l = some r → r.1 < 18446744073709551616 ∧ r.2.2.length < l.length
  | [], _, _, _, _, h => by cases h
  | c :: l, i, u, b, r, h => by
    unfold fNumF at h
    split at h
    · cases h
    · split at h
      · cases h; exact ⟨Nat.mod_lt _ (by decide), by simp⟩
      · have := fNumF_lt l _ _ _ r h
        exact ⟨this.1, by rw [List.length_cons]; omega⟩
theorem fNumber_len (st : RSt) : (fNumber st).2.1.length ≤ st.1.length := by
  unfold fNumber
  split
  · rename_i u b l h; have := (fNumF_lt _ _ _ _ _ h).2; exact Nat.le_of_lt this
  · exact Nat.le_refl _
def fText (st : RSt) : List UInt8 × RSt := if (fNumber st).2.1.length < (fNumber st).1 ∨ (fNumber st).2.2 = true then ([], ((fNumber st).2.1, true)) else ((fNumber st).2.1.take (fNumber st).1, ((fNumber st).2.1.drop (fNumber st).1, false))
def FResS (B : Nat) (w0 : World) (L : List Item) (g : Nat) (v : List UInt8) (st : RSt) (e : Ending) (w' : World) : Prop :=
  ∃ s t : ByteArray, e = .returned (.string t) ∧ Hid (t.data.toList = v) ∧ Hid (s.data.toList = st.1) ∧ Hp B w0 w' (.blk g [.string s, .bool st.2] 77 :: L)
theorem ftake_ext (s : ByteArray) (n : Nat) : (s.extract 0 n).data.toList = s.data.toList.take n := by
  rw [ext_list]
  simp
set_option maxRecDepth 100000 in
set_option maxHeartbeats 8000000 in
theorem frtext_any {B : Nat} {w0 w : World} {L : List Item} (g : Nat) (s : ByteArray) (b : Bool) (hl : s.size ≤ 100000) (hS : Hp B w0 w (.blk g [.string s, .bool b] 77 :: L)) :
    Calls Tryz.prog 32 #[.pointer (some ⟨g, 0, none⟩)] w (FResS B w0 L g (fText (s.data.toList, b)).1 (fText (s.data.toList, b)).2) := by
  have HN := Lib.hid (frnumber_any g s b hl hS)
  unfold FRes at HN
  have hlen := fNumber_len (s.data.toList, b)
  unfold fText
  obtain ⟨n, hn⟩ : ∃ n, n = (fNumber (s.data.toList, b)).1 := ⟨_, rfl⟩
  obtain ⟨l2, hl2⟩ : ∃ l2, l2 = (fNumber (s.data.toList, b)).2.1 := ⟨_, rfl⟩
  obtain ⟨b2, hb2⟩ : ∃ b2, b2 = (fNumber (s.data.toList, b)).2.2 := ⟨_, rfl⟩
  rw [← hn, ← hl2, ← hb2] at HN
  rw [← hl2] at hlen
  rw [← hn, ← hl2, ← hb2]
  clear hn hl2 hb2
  by_cases h : l2.length < n ∨ b2 = true
  · rw [if_pos h]
    have HH := Lib.hid h
    clear h
    ((try clear hF); (first | have hF := And.intro hS.facts (hR.at hS.ext) | have hF := hS.facts); simp only [HFacts, cellFacts, RFacts, cellOnly, and_true, true_and, Nat.zero_add, Nat.reduceAdd] at hF)
    go_enter Tryz.func32, Tryz.ntmps32
    go_wp2_with (first | ((with_reducible first | refine nhLa ?_ | refine nhLs ?_ | refine nhLd ?_ | refine nhCa ?_ | refine nhCs ?_ | refine nhCd ?_ | refine nhPa ?_ | refine nhPs ?_ | refine nhPd ?_ | refine nhKa ?_ | refine nhKs ?_ | refine nhKd ?_); ((try clear hF); clear hS; intro wk hS; (try simp only [List.set_cons_zero, List.set_cons_succ, heap_size, heap_set_size] at hS); ((try clear hF); (first | have hF := And.intro hS.facts (hR.at hS.ext) | have hF := hS.facts); simp only [HFacts, cellFacts, RFacts, cellOnly, and_true, true_and, Nat.zero_add, Nat.reduceAdd] at hF))) | fail)
    (with_reducible refine Calls.mono HN.out ?_)
    clear hS hF
    rintro e wk ⟨s2, rfl, Hs2, hS⟩
    have hsz : (s2.size : Int) = l2.length := by rw [← Hs2.out]; rfl
    by_cases h1 : l2.length < n
    · have h1' : (s2.size : Int) < n := by omega
      ((try clear hF); (first | have hF := And.intro hS.facts (hR.at hS.ext) | have hF := hS.facts); simp only [HFacts, cellFacts, RFacts, cellOnly, and_true, true_and, Nat.zero_add, Nat.reduceAdd] at hF)
      go_wp2_with (first | ((with_reducible first | refine nhLa ?_ | refine nhLs ?_ | refine nhLd ?_ | refine nhCa ?_ | refine nhCs ?_ | refine nhCd ?_ | refine nhPa ?_ | refine nhPs ?_ | refine nhPd ?_ | refine nhKa ?_ | refine nhKs ?_ | refine nhKd ?_); ((try clear hF); clear hS; intro wk hS; (try simp only [List.set_cons_zero, List.set_cons_succ, heap_size, heap_set_size] at hS); ((try clear hF); (first | have hF := And.intro hS.facts (hR.at hS.ext) | have hF := hS.facts); simp only [HFacts, cellFacts, RFacts, cellOnly, and_true, true_and, Nat.zero_add, Nat.reduceAdd] at hF))) | fail)
      go_ret
      exact ⟨s2, ⟨#[]⟩, rfl, Lib.hid rfl, Hs2, hS⟩
    · obtain rfl : b2 = true := HH.out.resolve_left h1
      have h1' : (n : Int) ≤ s2.size := by omega
      ((try clear hF); (first | have hF := And.intro hS.facts (hR.at hS.ext) | have hF := hS.facts); simp only [HFacts, cellFacts, RFacts, cellOnly, and_true, true_and, Nat.zero_add, Nat.reduceAdd] at hF)
      go_wp2_with (first | ((with_reducible first | refine nhLa ?_ | refine nhLs ?_ | refine nhLd ?_ | refine nhCa ?_ | refine nhCs ?_ | refine nhCd ?_ | refine nhPa ?_ | refine nhPs ?_ | refine nhPd ?_ | refine nhKa ?_ | refine nhKs ?_ | refine nhKd ?_); ((try clear hF); clear hS; intro wk hS; (try simp only [List.set_cons_zero, List.set_cons_succ, heap_size, heap_set_size] at hS); ((try clear hF); (first | have hF := And.intro hS.facts (hR.at hS.ext) | have hF := hS.facts); simp only [HFacts, cellFacts, RFacts, cellOnly, and_true, true_and, Nat.zero_add, Nat.reduceAdd] at hF))) | fail)
      go_ret
      exact ⟨s2, ⟨#[]⟩, rfl, Lib.hid rfl, Hs2, hS⟩
  · rw [if_neg h]
    have h1 : n ≤ l2.length := by omega
    obtain rfl : b2 = false := by cases b2 <;> simp_all
    clear h
    ((try clear hF); (first | have hF := And.intro hS.facts (hR.at hS.ext) | have hF := hS.facts); simp only [HFacts, cellFacts, RFacts, cellOnly, and_true, true_and, Nat.zero_add, Nat.reduceAdd] at hF)
    go_enter Tryz.func32, Tryz.ntmps32
    go_wp2_with (first | ((with_reducible first | refine nhLa ?_ | refine nhLs ?_ | refine nhLd ?_ | refine nhCa ?_ | refine nhCs ?_ | refine nhCd ?_ | refine nhPa ?_ | refine nhPs ?_ | refine nhPd ?_ | refine nhKa ?_ | refine nhKs ?_ | refine nhKd ?_); ((try clear hF); clear hS; intro wk hS; (try simp only [List.set_cons_zero, List.set_cons_succ, heap_size, heap_set_size] at hS); ((try clear hF); (first | have hF := And.intro hS.facts (hR.at hS.ext) | have hF := hS.facts); simp only [HFacts, cellFacts, RFacts, cellOnly, and_true, true_and, Nat.zero_add, Nat.reduceAdd] at hF))) | fail)
    (with_reducible refine Calls.mono HN.out ?_)
    clear hS hF
    rintro e wk ⟨s2, rfl, Hs2, hS⟩
    have hsz : (s2.size : Int) = l2.length := by rw [← Hs2.out]; rfl
    have h1' : (n : Int) ≤ s2.size := by omega
    have h2' : n ≤ s2.size := by omega
    have HE1 := Lib.hid ((ftake_ext s2 n).trans (congrArg (List.take n) Hs2.out))
    have HE2 := Lib.hid ((ext_drop s2 n).trans (congrArg (List.drop n) Hs2.out))
    ((try clear hF); (first | have hF := And.intro hS.facts (hR.at hS.ext) | have hF := hS.facts); simp only [HFacts, cellFacts, RFacts, cellOnly, and_true, true_and, Nat.zero_add, Nat.reduceAdd] at hF)
    go_wp2_with (first | ((with_reducible first | refine nhLa ?_ | refine nhLs ?_ | refine nhLd ?_ | refine nhCa ?_ | refine nhCs ?_ | refine nhCd ?_ | refine nhPa ?_ | refine nhPs ?_ | refine nhPd ?_ | refine nhKa ?_ | refine nhKs ?_ | refine nhKd ?_); ((try clear hF); clear hS; intro wk hS; (try simp only [List.set_cons_zero, List.set_cons_succ, heap_size, heap_set_size] at hS); ((try clear hF); (first | have hF := And.intro hS.facts (hR.at hS.ext) | have hF := hS.facts); simp only [HFacts, cellFacts, RFacts, cellOnly, and_true, true_and, Nat.zero_add, Nat.reduceAdd] at hF))) | fail)
    go_ret
    exact ⟨s2.extract n s2.size, s2.extract 0 n, rfl, HE1, HE2, hS⟩
end Go.Proofs.YtcpllhjhnfmepaaGreatDoor
