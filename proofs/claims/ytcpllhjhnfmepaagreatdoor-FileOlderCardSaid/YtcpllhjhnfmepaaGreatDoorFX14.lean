/- Texts joined: the reader of encode: number, signed, small, take, one. the reader of encode: signed. the reader of encode: small. the reader of encode: take. columns keep their numbers: the plain law of SchemaNumbers. schema.More once more: with great numbers. What is known of values, plainly: who is passed by had nothing; two parts are the whole. No program. stats: values as Go has them; what the walks of stats lean on. stats.one, stats.may, stats.May -/
import Derived.Test.YtcpllhjhnfmepaaGreatDoorFX12
import Derived.Test.YtcpllhjhnfmepaaGreatDoorFX13
import Derived.Test.YtcpllhjhnfmepaaGreatDoorFX02
import Derived.Test.YtcpllhjhnfmepaaGreatDoorFX11
import Derived.Deep.DeepCutAuto
import Derived.Test.YtcpllhjhnfmepaaGreatDoorFX01
/- the reader of encode: number, signed, small, take, one. -/
namespace Go.Proofs.YtcpllhjhnfmepaaGreatDoor
set_option linter.all false
set_option linter.unusedSimpArgs false
set_option linter.unusedVariables false
open Go.RowKit
open Go.Lib (uvarint zigzag)
def rNumF : Nat → Nat → List UInt8 → Option (Nat × List UInt8)
  | _, _, [] => none
  | i, u, c :: l => if i = 10 then none else if c.toNat < 128 then some ((u + c.toNat % 128 * 2 ^ (7 * i)) % 18446744073709551616, l) else rNumF (i + 1) ((u + c.toNat % 128 * 2 ^ (7 * i)) % 18446744073709551616) l
/-- what is left to read, and whether it is bad -/
abbrev RSt := List UInt8 × Bool
def rNumber (st : RSt) : Nat × RSt := match rNumF 0 0 st.1 with
  | some (u, l) => (u, (l, st.2))
  | none => (0, (st.1, true))
theorem ext_list (s : ByteArray) (a b : Nat) : (s.extract a b).data.toList = (s.data.toList.drop a).take (b - a) := by
  simp [ByteArray.data_extract, List.extract]
theorem ext_drop (s : ByteArray) (a : Nat) : (s.extract a s.size).data.toList = s.data.toList.drop a := by
  rw [ext_list, List.take_of_length_le]
  rw [List.length_drop]
  exact Nat.le_refl _
theorem bytes_drop (s : ByteArray) (k : Nat) (h : k < s.size) : s.data.toList.drop k = s[k] :: s.data.toList.drop (k + 1) := by
  rw [List.drop_eq_getElem_cons (by exact h)]
  rfl
theorem or_step (c : UInt8) (uk k : Nat) (hk : k < 10) (hu : uk < 2 ^ (7 * k)) :
    bits .or .u64 (uk : Int) (IntKind.u64.wrap (IntKind.u64.wrap (bits .and .u8 (c.toNat : Int) 127) * 2 ^ (7 * k))) = (((uk + c.toNat % 128 * 2 ^ (7 * k)) % 18446744073709551616 : Nat) : Int) := by
  have hc := c.toNat_lt
  have e1 : bits .and .u8 (c.toNat : Int) 127 = (c.toNat : Int) % 128 := u8_and127 _ (by omega) (by omega)
  rw [e1, IntKind.wrap_u64, IntKind.wrap_u64]
  generalize c.toNat = d at *
  have h0 : (d : Int) % 128 % 18446744073709551616 = (d : Int) % 128 := by omega
  rw [h0]
  rcases (by omega : k = 0 ∨ k = 1 ∨ k = 2 ∨ k = 3 ∨ k = 4 ∨ k = 5 ∨ k = 6 ∨ k = 7 ∨ k = 8 ∨ k = 9) with rfl | rfl | rfl | rfl | rfl | rfl | rfl | rfl | rfl | rfl <;> simp only [Nat.reduceMul, Nat.reducePow, Int.reducePow] at hu ⊢
  · rw [u64_orv0 _ _ (by omega) (by omega) (by omega) (by omega) (by omega)]; omega
  · rw [u64_orv7 _ _ (by omega) (by omega) (by omega) (by omega) (by omega)]; omega
  · rw [u64_orv14 _ _ (by omega) (by omega) (by omega) (by omega) (by omega)]; omega
  · rw [u64_orv21 _ _ (by omega) (by omega) (by omega) (by omega) (by omega)]; omega
  · rw [u64_orv28 _ _ (by omega) (by omega) (by omega) (by omega) (by omega)]; omega
  · rw [u64_orv35 _ _ (by omega) (by omega) (by omega) (by omega) (by omega)]; omega
  · rw [u64_orv42 _ _ (by omega) (by omega) (by omega) (by omega) (by omega)]; omega
  · rw [u64_orv49 _ _ (by omega) (by omega) (by omega) (by omega) (by omega)]; omega
  · rw [u64_orv56 _ _ (by omega) (by omega) (by omega) (by omega) (by omega)]; omega
  · rw [u64_orv63 _ _ (by omega) (by omega) (by omega) (by omega) (by omega)]; omega
theorem or_next (d uk k : Nat) (hu : uk < 2 ^ (7 * k)) : (uk + d % 128 * 2 ^ (7 * k)) % 18446744073709551616 < 2 ^ (7 * (k + 1)) := by
  have h1 : 2 ^ (7 * (k + 1)) = 128 * 2 ^ (7 * k) := by rw [Nat.mul_add, Nat.pow_add, Nat.mul_comm]
  have h2 : d % 128 * 2 ^ (7 * k) ≤ 127 * 2 ^ (7 * k) := Nat.mul_le_mul_right _ (by omega)
  have h3 := Nat.mod_le (uk + d % 128 * 2 ^ (7 * k)) 18446744073709551616
  rw [h1]
  omega
/-- the reader at the head has read on: it hands back v -/
def RRes (B : Nat) (w0 : World) (L : List Item) (g : Nat) (v : Value) (st : RSt) (e : Ending) (w' : World) : Prop :=
  ∃ s : ByteArray, e = .returned v ∧ Hid (s.data.toList = st.1) ∧ Hp B w0 w' (.blk g [.string s, .bool st.2] 126 :: L)
set_option maxRecDepth 100000 in
set_option maxHeartbeats 8000000 in
theorem rnumber_any {B : Nat} {w0 w : World} {L : List Item} (g : Nat) (s : ByteArray) (b : Bool) (hl : s.size ≤ 100000) (hS : Hp B w0 w (.blk g [.string s, .bool b] 126 :: L)) :
    Calls Tryz.prog 84 #[.pointer (some ⟨g, 0, none⟩)] w (RRes B w0 L g (.int .u64 (rNumber (s.data.toList, b)).1) (rNumber (s.data.toList, b)).2) := by
  obtain ⟨m, hm⟩ : ∃ m, m = min s.size 10 := ⟨_, rfl⟩
  have hm1 : min (s.size : Int) 10 = m := by omega
  have Hm := Lib.hid hm
  have hm10 : m ≤ 10 := by omega
  have hmn : m ≤ s.size := by omega
  clear hm
  ((try clear hF); (first | have hF := And.intro hS.facts (hR.at hS.ext) | have hF := hS.facts); simp only [HFacts, cellFacts, RFacts, cellOnly, and_true, true_and, Nat.zero_add, Nat.reduceAdd] at hF)
  go_enter Tryz.func84, Tryz.ntmps84
  go_wp2_with (first | ((with_reducible first | refine nhLa ?_ | refine nhLs ?_ | refine nhLd ?_ | refine nhCa ?_ | refine nhCs ?_ | refine nhCd ?_ | refine nhPa ?_ | refine nhPs ?_ | refine nhPd ?_ | refine nhKa ?_ | refine nhKs ?_ | refine nhKd ?_); ((try clear hF); clear hS; intro wk hS; (try simp only [List.set_cons_zero, List.set_cons_succ, heap_size, heap_set_size] at hS); ((try clear hF); (first | have hF := And.intro hS.facts (hR.at hS.ext) | have hF := hS.facts); simp only [HFacts, cellFacts, RFacts, cellOnly, and_true, true_and, Nat.zero_add, Nat.reduceAdd] at hF))) | fail)
  clear hm1
  go_loopw [11, 3] (fun i u wr => ∃ (k uk : Nat), i = .int .i64 k ∧ k ≤ m ∧ u = .int .u64 uk ∧ uk < 2 ^ (7 * k) ∧ Hid (rNumF 0 0 s.data.toList = rNumF k uk (s.data.toList.drop k)) ∧ Hp B w0 wr (.blk g [.string s, .bool b] 126 :: L)) (fun i _ _ => m - (intOf i).toNat)
  case atStart => exact ⟨0, 0, rfl, Nat.zero_le _, rfl, by simp, Lib.hid rfl, hS⟩
  case round =>
    clear hS hF
    obtain ⟨k, uk, rfl, hk, rfl, huk, hf, hS⟩ := hrel
    have HUK := Lib.hid huk
    clear huk
    by_cases hlt : k < m
    · have hks : k < s.size := by omega
      have HU := Lib.hid (or_step s[k] uk k (by omega) HUK.out)
      have HU2 := Lib.hid (or_next s[k].toNat uk k HUK.out)
      have HD := Lib.hid (bytes_drop s k hks)
      have HED := Lib.hid (ext_drop s (k + 1))
      ((try clear hF); (first | have hF := And.intro hS.facts (hR.at hS.ext) | have hF := hS.facts); simp only [HFacts, cellFacts, RFacts, cellOnly, and_true, true_and, Nat.zero_add, Nat.reduceAdd] at hF)
      go_wp2_with (first | ((with_reducible first | refine nhLa ?_ | refine nhLs ?_ | refine nhLd ?_ | refine nhCa ?_ | refine nhCs ?_ | refine nhCd ?_ | refine nhPa ?_ | refine nhPs ?_ | refine nhPd ?_ | refine nhKa ?_ | refine nhKs ?_ | refine nhKd ?_); ((try clear hF); clear hS; intro wk hS; (try simp only [List.set_cons_zero, List.set_cons_succ, heap_size, heap_set_size] at hS); ((try clear hF); (first | have hF := And.intro hS.facts (hR.at hS.ext) | have hF := hS.facts); simp only [HFacts, cellFacts, RFacts, cellOnly, and_true, true_and, Nat.zero_add, Nat.reduceAdd] at hF))) | fail)
      · have hlt8 : s[k].toNat < 128 := by omega
        have e : rNumF 0 0 s.data.toList = some ((uk + s[k].toNat % 128 * 2 ^ (7 * k)) % 18446744073709551616, s.data.toList.drop (k + 1)) := by
          rw [hf.out, HD.out, rNumF, if_neg (by omega), if_pos hlt8]
        have e2 : rNumber (s.data.toList, b) = ((uk + s[k].toNat % 128 * 2 ^ (7 * k)) % 18446744073709551616, (s.data.toList.drop (k + 1), b)) := by unfold rNumber; simp only [e]
        rw [e2]
        go_ret
        exact ⟨s.extract (k + 1) s.size, by rw [← HU.out]; first | done | rfl, HED, hS⟩
      · go_roundw
        case rel =>
          refine ⟨k + 1, _, by go_num, by omega, by rw [HU.out], HU2.out, Lib.hid ?_, hS⟩
          rw [hf.out, HD.out, rNumF, if_neg (by omega), if_neg (by omega)]
        case measure => simp [intOf]; omega
    · obtain rfl : k = m := by omega
      have e : rNumF 0 0 s.data.toList = none := by
        rw [hf.out]
        have := Hm.out
        rcases Nat.lt_or_ge k s.size with h | h
        · rw [bytes_drop s k h, rNumF, if_pos (by omega)]
        · rw [List.drop_eq_nil_of_le (by rw [size_cast]; exact h)]; rfl
      have e2 : rNumber (s.data.toList, b) = (0, (s.data.toList, true)) := by unfold rNumber; simp only [e]
      have E2 := Lib.hid e2
      clear e e2
      ((try clear hF); (first | have hF := And.intro hS.facts (hR.at hS.ext) | have hF := hS.facts); simp only [HFacts, cellFacts, RFacts, cellOnly, and_true, true_and, Nat.zero_add, Nat.reduceAdd] at hF)
      go_wp2_with (first | ((with_reducible first | refine nhLa ?_ | refine nhLs ?_ | refine nhLd ?_ | refine nhCa ?_ | refine nhCs ?_ | refine nhCd ?_ | refine nhPa ?_ | refine nhPs ?_ | refine nhPd ?_ | refine nhKa ?_ | refine nhKs ?_ | refine nhKd ?_); ((try clear hF); clear hS; intro wk hS; (try simp only [List.set_cons_zero, List.set_cons_succ, heap_size, heap_set_size] at hS); ((try clear hF); (first | have hF := And.intro hS.facts (hR.at hS.ext) | have hF := hS.facts); simp only [HFacts, cellFacts, RFacts, cellOnly, and_true, true_and, Nat.zero_add, Nat.reduceAdd] at hF))) | fail)
      rw [E2.out]
      go_ret
      exact ⟨s, rfl, Lib.hid rfl, hS⟩
end Go.Proofs.YtcpllhjhnfmepaaGreatDoor

/- the reader of encode: signed. -/
namespace Go.Proofs.YtcpllhjhnfmepaaGreatDoor
set_option linter.all false
set_option linter.unusedSimpArgs false
set_option linter.unusedVariables false
open Go.RowKit
open Go.Lib (uvarint zigzag)
theorem rNumF_lt : ∀ (l : List UInt8) (i u : Nat) (r : Nat × List UInt8), rNumF i u l = some r → r.1 < 18446744073709551616 ∧ r.2.length < l.length
  | [], _, _, _, h => by cases h
  | c :: l, i, u, r, h => by
    unfold rNumF at h
    split at h
    · cases h
    · split at h
      · cases h; exact ⟨Nat.mod_lt _ (by decide), by simp⟩
      · have := rNumF_lt l _ _ r h
        exact ⟨this.1, by rw [List.length_cons]; omega⟩
theorem rNumber_lt (st : RSt) : (rNumber st).1 < 18446744073709551616 := by
  unfold rNumber
  split
  · rename_i u l h; exact (rNumF_lt _ _ _ _ h).1
  · exact (by decide : (0 : Nat) < 18446744073709551616)
theorem rNumber_len (st : RSt) : (rNumber st).2.1.length ≤ st.1.length := by
  unfold rNumber
  split
  · rename_i u l h; have := (rNumF_lt _ _ _ _ h).2; exact Nat.le_of_lt this
  · exact Nat.le_refl _
def unzig (u : Nat) : Int := if u % 2 = 0 then ((u / 2 : Nat) : Int) else -((u / 2 : Nat) : Int) - 1
def rSigned (st : RSt) : Int × RSt := (unzig (rNumber st).1, (rNumber st).2)
def rSmall (most : Nat) (st : RSt) : Nat × RSt := if most < (rNumber st).1 then (0, ((rNumber st).2.1, true)) else rNumber st
def rTake (n : Nat) (st : RSt) : List UInt8 × RSt := if st.1.length < n ∨ st.2 = true then ([], (st.1, true)) else (st.1.take n, (st.1.drop n, st.2))
def rOne (kind : Int) (st : RSt) : GV × RSt := if kind = 1 then (⟨1, (rSigned st).1, ⟨#[]⟩⟩, (rSigned st).2) else (⟨2, 0, ⟨(rTake (rSmall 40 st).1 (rSmall 40 st).2).1.toArray⟩⟩, (rTake (rSmall 40 st).1 (rSmall 40 st).2).2)
theorem xor_commi (a b : Int) : bits .xor .i64 a b = bits .xor .i64 b a := by
  show IntKind.i64.wrap ((BitVec.ofInt 64 a ^^^ BitVec.ofInt 64 b).toNat : Int) = IntKind.i64.wrap ((BitVec.ofInt 64 b ^^^ BitVec.ofInt 64 a).toNat : Int)
  rw [BitVec.xor_comm]
theorem xor_zeroi (a : Nat) (h : a < 9223372036854775808) : bits .xor .i64 (a : Int) 0 = a := by
  show IntKind.i64.wrap ((BitVec.ofInt 64 (a : Int) ^^^ BitVec.ofInt 64 0).toNat : Int) = _
  rw [show BitVec.ofInt 64 0 = 0#64 by rfl, BitVec.xor_zero, BitVec.ofInt_natCast, BitVec.toNat_ofNat, Nat.mod_eq_of_lt (by omega), IntKind.wrap_i64]
  omega
theorem unzig_even (u : Nat) (hu : u < 18446744073709551616) (h : u % 2 = 0) : bits .xor .i64 ((u : Int) / 2) 0 = unzig u := by
  unfold unzig
  rw [if_pos h, show (u : Int) / 2 = ((u / 2 : Nat) : Int) by omega, xor_zeroi _ (by omega)]
theorem unzig_odd (u : Nat) (hu : u < 18446744073709551616) (h : u % 2 = 1) : bits .xor .i64 ((u : Int) / 2) (-1) = unzig u := by
  unfold unzig
  rw [if_neg (by omega), show (u : Int) / 2 = ((u / 2 : Nat) : Int) by omega, xor_commi, Lib.i64_not _ (by omega)]
set_option maxRecDepth 100000 in
set_option maxHeartbeats 8000000 in
theorem rsigned_any {B : Nat} {w0 w : World} {L : List Item} (g : Nat) (s : ByteArray) (b : Bool) (hl : s.size ≤ 100000) (hS : Hp B w0 w (.blk g [.string s, .bool b] 126 :: L)) :
    Calls Tryz.prog 86 #[.pointer (some ⟨g, 0, none⟩)] w (RRes B w0 L g (.int .i64 (rSigned (s.data.toList, b)).1) (rSigned (s.data.toList, b)).2) := by
  have HN := Lib.hid (rnumber_any g s b hl hS)
  have hlt := rNumber_lt (s.data.toList, b)
  unfold rSigned
  obtain ⟨u, hu⟩ : ∃ u, (rNumber (s.data.toList, b)).1 = u := ⟨_, rfl⟩
  rw [hu] at HN hlt ⊢
  clear hu hS
  have a1 : bits .and .u64 (u : Int) 1 = (u : Int) % 2 := Lib.u64_and1 _ (by omega) (by omega)
  have w1 : IntKind.i64.wrap ((u : Int) / 2) = (u : Int) / 2 := by rw [IntKind.wrap_i64]; omega
  by_cases h2 : u % 2 = 0
  · have a2 : bits .and .u64 (u : Int) 1 = 0 := by rw [a1]; omega
    have HX := Lib.hid (unzig_even u hlt h2)
    clear a1 h2
    go_enter Tryz.func86, Tryz.ntmps86
    go_wp2_with (go_at_call 84; (with_reducible refine Calls.mono HN.out ?_); rintro e wk ⟨s', rfl, hs', hS⟩)
    rw [← HX.out]
    go_ret
    exact ⟨s', rfl, hs', hS⟩
  · have a2 : bits .and .u64 (u : Int) 1 = 1 := by rw [a1]; omega
    have HX := Lib.hid (unzig_odd u hlt (by omega))
    clear a1 h2
    go_enter Tryz.func86, Tryz.ntmps86
    go_wp2_with (go_at_call 84; (with_reducible refine Calls.mono HN.out ?_); rintro e wk ⟨s', rfl, hs', hS⟩)
    rw [← HX.out]
    go_ret
    exact ⟨s', rfl, hs', hS⟩
end Go.Proofs.YtcpllhjhnfmepaaGreatDoor

/- the reader of encode: small. -/
namespace Go.Proofs.YtcpllhjhnfmepaaGreatDoor
set_option linter.all false
set_option linter.unusedSimpArgs false
set_option linter.unusedVariables false
open Go.RowKit
open Go.Lib (uvarint zigzag)
set_option maxRecDepth 100000 in
set_option maxHeartbeats 8000000 in
theorem rsmall_any {B : Nat} {w0 w : World} {L : List Item} (g : Nat) (s : ByteArray) (b : Bool) (most : Nat) (hl : s.size ≤ 100000) (hm : most ≤ 1000000) (hS : Hp B w0 w (.blk g [.string s, .bool b] 126 :: L)) :
    Calls Tryz.prog 60 #[.pointer (some ⟨g, 0, none⟩), .int .i64 most] w (RRes B w0 L g (.int .i64 (rSmall most (s.data.toList, b)).1) (rSmall most (s.data.toList, b)).2) := by
  have HN := Lib.hid (rnumber_any g s b hl hS)
  have hlt := rNumber_lt (s.data.toList, b)
  obtain ⟨u, hu⟩ : ∃ u, (rNumber (s.data.toList, b)).1 = u := ⟨_, rfl⟩
  obtain ⟨st, hst⟩ : ∃ st, (rNumber (s.data.toList, b)).2 = st := ⟨_, rfl⟩
  rw [hst] at HN
  rw [hu] at HN hlt
  clear hS
  have w1 : IntKind.u64.wrap (most : Int) = most := by rw [IntKind.wrap_u64]; omega
  by_cases h2 : most < u
  · have e : rSmall most (s.data.toList, b) = (0, (st.1, true)) := by unfold rSmall; rw [hu, if_pos h2, hst]
    rw [e]
    clear hu hst e
    show Calls _ _ _ _ (RRes B w0 L g (.int .i64 0) (st.1, true))
    go_enter Tryz.func60, Tryz.ntmps60
    go_wp2_with (go_at_call 84; (with_reducible refine Calls.mono HN.out ?_); rintro e wk ⟨s', rfl, hs', hS⟩; have hF := hS.facts; simp only [HFacts, cellFacts, RFacts, cellOnly, and_true, true_and, Nat.zero_add, Nat.reduceAdd] at hF)
    ((with_reducible first | refine nhLa ?_ | refine nhLs ?_ | refine nhLd ?_ | refine nhCa ?_ | refine nhCs ?_ | refine nhCd ?_ | refine nhPa ?_ | refine nhPs ?_ | refine nhPd ?_ | refine nhKa ?_ | refine nhKs ?_ | refine nhKd ?_); ((try clear hF); clear hS; intro wk hS; (try simp only [List.set_cons_zero, List.set_cons_succ, heap_size, heap_set_size] at hS); ((try clear hF); (first | have hF := And.intro hS.facts (hR.at hS.ext) | have hF := hS.facts); simp only [HFacts, cellFacts, RFacts, cellOnly, and_true, true_and, Nat.zero_add, Nat.reduceAdd] at hF)))
    go_ret
    exact ⟨s', rfl, hs', hS⟩
  · have e : rSmall most (s.data.toList, b) = (u, st) := by unfold rSmall; rw [hu, if_neg h2, ← hst, ← hu]
    rw [e]
    clear hu hst e
    show Calls _ _ _ _ (RRes B w0 L g (.int .i64 (u : Int)) st)
    have w2 : IntKind.i64.wrap (u : Int) = u := by rw [IntKind.wrap_i64]; omega
    go_enter Tryz.func60, Tryz.ntmps60
    go_wp2_with (go_at_call 84; (with_reducible refine Calls.mono HN.out ?_); rintro e wk ⟨s', rfl, hs', hS⟩; have hF := hS.facts; simp only [HFacts, cellFacts, RFacts, cellOnly, and_true, true_and, Nat.zero_add, Nat.reduceAdd] at hF)
    go_ret
    exact ⟨s', rfl, hs', hS⟩
end Go.Proofs.YtcpllhjhnfmepaaGreatDoor

/- the reader of encode: take. -/
namespace Go.Proofs.YtcpllhjhnfmepaaGreatDoor
set_option linter.all false
set_option linter.unusedSimpArgs false
set_option linter.unusedVariables false
open Go.RowKit
open Go.Lib (uvarint zigzag)
/-- the reader at the head has read on: it hands back a text -/
def RResS (B : Nat) (w0 : World) (L : List Item) (g : Nat) (t : List UInt8) (st : RSt) (e : Ending) (w' : World) : Prop :=
  ∃ s t' : ByteArray, e = .returned (.string t') ∧ Hid (t'.data.toList = t) ∧ Hid (s.data.toList = st.1) ∧ Hp B w0 w' (.blk g [.string s, .bool st.2] 126 :: L)
theorem ext_take (s : ByteArray) (a : Nat) : (s.extract 0 a).data.toList = s.data.toList.take a := by
  rw [ext_list]; simp
set_option maxRecDepth 100000 in
set_option maxHeartbeats 8000000 in
theorem rtake_any {B : Nat} {w0 w : World} {L : List Item} (g : Nat) (s : ByteArray) (b : Bool) (n : Nat) (hl : s.size ≤ 100000) (hm : n ≤ 1000000) (hS : Hp B w0 w (.blk g [.string s, .bool b] 126 :: L)) :
    Calls Tryz.prog 61 #[.pointer (some ⟨g, 0, none⟩), .int .i64 n] w (RResS B w0 L g (rTake n (s.data.toList, b)).1 (rTake n (s.data.toList, b)).2) := by
  have hsz : s.data.toList.length = s.size := rfl
  by_cases h : s.size < n ∨ b = true
  · have e : rTake n (s.data.toList, b) = ([], (s.data.toList, true)) := by unfold rTake; rw [if_pos (by simpa [hsz] using h)]
    rw [e]
    clear e hsz
    by_cases h1 : s.size < n
    · clear h
      ((try clear hF); (first | have hF := And.intro hS.facts (hR.at hS.ext) | have hF := hS.facts); simp only [HFacts, cellFacts, RFacts, cellOnly, and_true, true_and, Nat.zero_add, Nat.reduceAdd] at hF)
      go_enter Tryz.func61, Tryz.ntmps61
      go_wp2_with (first | ((with_reducible first | refine nhLa ?_ | refine nhLs ?_ | refine nhLd ?_ | refine nhCa ?_ | refine nhCs ?_ | refine nhCd ?_ | refine nhPa ?_ | refine nhPs ?_ | refine nhPd ?_ | refine nhKa ?_ | refine nhKs ?_ | refine nhKd ?_); ((try clear hF); clear hS; intro wk hS; (try simp only [List.set_cons_zero, List.set_cons_succ, heap_size, heap_set_size] at hS); ((try clear hF); (first | have hF := And.intro hS.facts (hR.at hS.ext) | have hF := hS.facts); simp only [HFacts, cellFacts, RFacts, cellOnly, and_true, true_and, Nat.zero_add, Nat.reduceAdd] at hF))) | fail)
      go_ret
      exact ⟨s, ⟨#[]⟩, rfl, Lib.hid rfl, Lib.hid rfl, hS⟩
    · obtain rfl : b = true := by simpa [h1] using h
      clear h
      ((try clear hF); (first | have hF := And.intro hS.facts (hR.at hS.ext) | have hF := hS.facts); simp only [HFacts, cellFacts, RFacts, cellOnly, and_true, true_and, Nat.zero_add, Nat.reduceAdd] at hF)
      go_enter Tryz.func61, Tryz.ntmps61
      go_wp2_with (first | ((with_reducible first | refine nhLa ?_ | refine nhLs ?_ | refine nhLd ?_ | refine nhCa ?_ | refine nhCs ?_ | refine nhCd ?_ | refine nhPa ?_ | refine nhPs ?_ | refine nhPd ?_ | refine nhKa ?_ | refine nhKs ?_ | refine nhKd ?_); ((try clear hF); clear hS; intro wk hS; (try simp only [List.set_cons_zero, List.set_cons_succ, heap_size, heap_set_size] at hS); ((try clear hF); (first | have hF := And.intro hS.facts (hR.at hS.ext) | have hF := hS.facts); simp only [HFacts, cellFacts, RFacts, cellOnly, and_true, true_and, Nat.zero_add, Nat.reduceAdd] at hF))) | fail)
      go_ret
      exact ⟨s, ⟨#[]⟩, rfl, Lib.hid rfl, Lib.hid rfl, hS⟩
  · have h1 : n ≤ s.size := by omega
    obtain rfl : b = false := by cases b <;> simp_all
    have e : rTake n (s.data.toList, false) = (s.data.toList.take n, (s.data.toList.drop n, false)) := by unfold rTake; rw [if_neg (by simpa [hsz] using h)]
    rw [e]
    clear e hsz h
    have HE1 := Lib.hid (ext_take s n)
    have HE2 := Lib.hid (ext_drop s n)
    ((try clear hF); (first | have hF := And.intro hS.facts (hR.at hS.ext) | have hF := hS.facts); simp only [HFacts, cellFacts, RFacts, cellOnly, and_true, true_and, Nat.zero_add, Nat.reduceAdd] at hF)
    go_enter Tryz.func61, Tryz.ntmps61
    go_wp2_with (first | ((with_reducible first | refine nhLa ?_ | refine nhLs ?_ | refine nhLd ?_ | refine nhCa ?_ | refine nhCs ?_ | refine nhCd ?_ | refine nhPa ?_ | refine nhPs ?_ | refine nhPd ?_ | refine nhKa ?_ | refine nhKs ?_ | refine nhKd ?_); ((try clear hF); clear hS; intro wk hS; (try simp only [List.set_cons_zero, List.set_cons_succ, heap_size, heap_set_size] at hS); ((try clear hF); (first | have hF := And.intro hS.facts (hR.at hS.ext) | have hF := hS.facts); simp only [HFacts, cellFacts, RFacts, cellOnly, and_true, true_and, Nat.zero_add, Nat.reduceAdd] at hF))) | fail)
    go_ret
    exact ⟨s.extract n s.size, s.extract 0 n, rfl, HE1, HE2, hS⟩
theorem rSmall_len (m : Nat) (st : RSt) : (rSmall m st).2.1.length ≤ st.1.length := by
  unfold rSmall
  split
  · exact rNumber_len st
  · exact rNumber_len st
theorem rSmall_le (m : Nat) (st : RSt) : (rSmall m st).1 ≤ m := by
  unfold rSmall
  split
  · exact Nat.zero_le _
  · omega
/-- the reader at the head has read on: it hands back a value -/
def RResV (B : Nat) (w0 : World) (L : List Item) (g : Nat) (v : GV) (st : RSt) (e : Ending) (w' : World) : Prop :=
  ∃ (s : ByteArray) (x : GV), e = .returned (.agg #[.int .i64 x.kind, .int .i64 x.num, .string x.text]) ∧ Hid (x = v) ∧ Hid (s.data.toList = st.1) ∧ Hp B w0 w' (.blk g [.string s, .bool st.2] 126 :: L)
set_option maxRecDepth 100000 in
set_option maxHeartbeats 8000000 in
theorem rone_int {B : Nat} {w0 w : World} {L : List Item} (g : Nat) (s : ByteArray) (b : Bool) (hl : s.size ≤ 100000) (hS : Hp B w0 w (.blk g [.string s, .bool b] 126 :: L)) :
    Calls Tryz.prog 85 #[.pointer (some ⟨g, 0, none⟩), .int .i64 1] w (RResV B w0 L g ⟨1, (rSigned (s.data.toList, b)).1, ⟨#[]⟩⟩ (rSigned (s.data.toList, b)).2) := by
  have HN := Lib.hid (fun (W : World) (L : List Item) hS => rsigned_any (w0 := w0) (w := W) (B := B) (L := L) g s b hl hS)
  obtain ⟨v, hv⟩ : ∃ v, (rSigned (s.data.toList, b)).1 = v := ⟨_, rfl⟩
  obtain ⟨st, hst⟩ : ∃ st, (rSigned (s.data.toList, b)).2 = st := ⟨_, rfl⟩
  rw [hst, hv] at HN
  rw [hst, hv]
  clear hst hv
  ((try clear hF); (first | have hF := And.intro hS.facts (hR.at hS.ext) | have hF := hS.facts); simp only [HFacts, cellFacts, RFacts, cellOnly, and_true, true_and, Nat.zero_add, Nat.reduceAdd] at hF)
  go_enter Tryz.func85, Tryz.ntmps85
  go_wp2_with (first | ((with_reducible first | refine nhLa ?_ | refine nhLs ?_ | refine nhLd ?_ | refine nhCa ?_ | refine nhCs ?_ | refine nhCd ?_ | refine nhPa ?_ | refine nhPs ?_ | refine nhPd ?_ | refine nhKa ?_ | refine nhKs ?_ | refine nhKd ?_); ((try clear hF); clear hS; intro wk hS; (try simp only [List.set_cons_zero, List.set_cons_succ, heap_size, heap_set_size] at hS); ((try clear hF); (first | have hF := And.intro hS.facts (hR.at hS.ext) | have hF := hS.facts); simp only [HFacts, cellFacts, RFacts, cellOnly, and_true, true_and, Nat.zero_add, Nat.reduceAdd] at hF))) | (go_at_call 86; (with_reducible refine Calls.mono (HN.out _ _ (hS.front 1 rfl)) ?_); clear hS; rintro e wk ⟨s', rfl, hs', hS⟩; (try simp only [List.eraseIdx_cons_zero, List.eraseIdx_cons_succ, List.set_cons_zero, List.set_cons_succ] at hS); ((try clear hF); (first | have hF := And.intro hS.facts (hR.at hS.ext) | have hF := hS.facts); simp only [HFacts, cellFacts, RFacts, cellOnly, and_true, true_and, Nat.zero_add, Nat.reduceAdd] at hF)))
  refine bodyPost_ret (v := .agg #[.int .i64 1, .int .i64 v, .string ⟨#[]⟩]) (by simp [results, Tryz.results85, go_sem, hF]) rfl ⟨s', ⟨1, v, ⟨#[]⟩⟩, rfl, Lib.hid rfl, hs', hS.sub (by simp)⟩
set_option maxRecDepth 100000 in
set_option maxHeartbeats 8000000 in
theorem rone_text {B : Nat} {w0 w : World} {L : List Item} (g : Nat) (s : ByteArray) (b : Bool) (kind : Int) (hk : kind ≠ 1) (hl : s.size ≤ 100000) (hS : Hp B w0 w (.blk g [.string s, .bool b] 126 :: L)) :
    Calls Tryz.prog 85 #[.pointer (some ⟨g, 0, none⟩), .int .i64 kind] w (RResV B w0 L g ⟨2, 0, ⟨(rTake (rSmall 40 (s.data.toList, b)).1 (rSmall 40 (s.data.toList, b)).2).1.toArray⟩⟩ (rTake (rSmall 40 (s.data.toList, b)).1 (rSmall 40 (s.data.toList, b)).2).2) := by
  have hkb : (kind == 1) = false := by simp [hk]
  clear hk
  have HN := Lib.hid (fun (W : World) (L : List Item) hS => rsmall_any (w0 := w0) (w := W) (B := B) (L := L) g s b 40 hl (by decide) hS)
  have hl1 := rSmall_len 40 (s.data.toList, b)
  have hl2 := rSmall_le 40 (s.data.toList, b)
  simp only [size_cast] at hl1
  obtain ⟨q, hq⟩ : ∃ q, rSmall 40 (s.data.toList, b) = q := ⟨_, rfl⟩
  rw [hq] at HN hl1 hl2
  rw [hq]
  clear hq
  obtain ⟨k, st⟩ := q
  have HM := Lib.hid (fun (W : World) (s' : ByteArray) (L : List Item) (h : s'.data.toList = st.1) hS => rtake_any (w0 := w0) (w := W) (B := B) (L := L) g s' st.2 k (by have := congrArg List.length h; rw [size_cast] at this; simp only at hl1; omega) (by simp only at hl2; omega) hS)
  have HT := Lib.hid (fun (s' : ByteArray) (h : s'.data.toList = st.1) => show rTake k (s'.data.toList, st.2) = rTake k st by rw [h])
  show Calls _ _ _ _ (RResV B w0 L g ⟨2, 0, ⟨(rTake k st).1.toArray⟩⟩ (rTake k st).2)
  have HN2 := Lib.hid (show ∀ (W : World) (L : List Item), Hp B w0 W (.blk g [.string s, .bool b] 126 :: L) → Calls Tryz.prog 60 #[.pointer (some ⟨g, 0, none⟩), .int .i64 40] W (RRes B w0 L g (.int .i64 (k : Int)) st) from HN.out)
  clear HN hl1 hl2
  ((try clear hF); (first | have hF := And.intro hS.facts (hR.at hS.ext) | have hF := hS.facts); simp only [HFacts, cellFacts, RFacts, cellOnly, and_true, true_and, Nat.zero_add, Nat.reduceAdd] at hF)
  go_enter Tryz.func85, Tryz.ntmps85
  go_wp2_with (first | ((with_reducible first | refine nhLa ?_ | refine nhLs ?_ | refine nhLd ?_ | refine nhCa ?_ | refine nhCs ?_ | refine nhCd ?_ | refine nhPa ?_ | refine nhPs ?_ | refine nhPd ?_ | refine nhKa ?_ | refine nhKs ?_ | refine nhKd ?_); ((try clear hF); clear hS; intro wk hS; (try simp only [List.set_cons_zero, List.set_cons_succ, heap_size, heap_set_size] at hS); ((try clear hF); (first | have hF := And.intro hS.facts (hR.at hS.ext) | have hF := hS.facts); simp only [HFacts, cellFacts, RFacts, cellOnly, and_true, true_and, Nat.zero_add, Nat.reduceAdd] at hF))) | (go_at_call 60; (with_reducible refine Calls.mono (HN2.out _ _ (hS.front 1 rfl)) ?_); clear hS; rintro e wk ⟨s', rfl, hs', hS⟩; (try simp only [List.eraseIdx_cons_zero, List.eraseIdx_cons_succ, List.set_cons_zero, List.set_cons_succ] at hS); ((try clear hF); (first | have hF := And.intro hS.facts (hR.at hS.ext) | have hF := hS.facts); simp only [HFacts, cellFacts, RFacts, cellOnly, and_true, true_and, Nat.zero_add, Nat.reduceAdd] at hF)) | (go_at_call 61; (with_reducible refine Calls.mono (HM.out _ s' _ hs'.out (hS.front 0 rfl)) ?_); clear hS; rintro e wk ⟨s2, t', rfl, ht', hs2, hS⟩; (try simp only [List.eraseIdx_cons_zero, List.eraseIdx_cons_succ, List.set_cons_zero, List.set_cons_succ] at hS); ((try clear hF); (first | have hF := And.intro hS.facts (hR.at hS.ext) | have hF := hS.facts); simp only [HFacts, cellFacts, RFacts, cellOnly, and_true, true_and, Nat.zero_add, Nat.reduceAdd] at hF)))
  have ht2 : t' = ⟨(rTake k st).1.toArray⟩ := by
    apply ByteArray.ext
    apply Array.toList_inj.1
    rw [ht'.out, HT.out s' hs'.out]
  rw [HT.out s' hs'.out] at hs2 hS
  refine bodyPost_ret (v := .agg #[.int .i64 2, .int .i64 0, .string t']) (by simp [results, Tryz.results85, go_sem, hF]) rfl ⟨s2, ⟨2, 0, t'⟩, rfl, Lib.hid (by rw [ht2]), hs2, hS.sub (by simp)⟩
theorem rone_any {B : Nat} {w0 w : World} {L : List Item} (g : Nat) (s : ByteArray) (b : Bool) (kind : Int) (hl : s.size ≤ 100000) (hS : Hp B w0 w (.blk g [.string s, .bool b] 126 :: L)) :
    Calls Tryz.prog 85 #[.pointer (some ⟨g, 0, none⟩), .int .i64 kind] w (RResV B w0 L g (rOne kind (s.data.toList, b)).1 (rOne kind (s.data.toList, b)).2) := by
  unfold rOne
  by_cases hk : kind = 1
  · subst hk
    rw [if_pos rfl]
    exact rone_int g s b hl hS
  · rw [if_neg hk]
    exact rone_text g s b kind hk hl hS
theorem rTake_len (m : Nat) (st : RSt) : (rTake m st).2.1.length ≤ st.1.length := by
  unfold rTake
  split <;> simp
theorem rOne_len (kind : Int) (st : RSt) : (rOne kind st).2.1.length ≤ st.1.length := by
  unfold rOne rSigned
  split
  · exact rNumber_len st
  · exact Nat.le_trans (rTake_len _ _) (rSmall_len _ _)
end Go.Proofs.YtcpllhjhnfmepaaGreatDoor

/- columns keep their numbers: the plain law of SchemaNumbers. -/
namespace Go.Proofs.YtcpllhjhnfmepaaGreatDoor
set_option linter.all false
set_option linter.unusedSimpArgs false
set_option linter.unusedVariables false
open Go.RowKit
/-- columns that may be a table's, by next -/
structure Inv (l : List CG) (next : Int) : Prop where
  len1 : 1 ≤ l.length
  len8 : l.length ≤ 8
  ok : ∀ c ∈ l, colB c = true
  idlt : ∀ c ∈ l, c.id < next
  apart : ∀ (i j : Nat) (ci cj : CG), i < j → l[i]? = some ci → l[j]? = some cj → clashC cj ci = false
theorem idxC_first (p : CG → Bool) : ∀ (l : List CG) (j k : Nat) (c : CG), l[k]? = some c → p c = true → (∀ i x, i < k → l[i]? = some x → p x = false) → idxC p j l = ((j + k : Nat) : Int)
  | [], _, _, _, h, _, _ => by cases h
  | x :: l, j, 0, c, h, hp, _ => by
    simp at h; subst h
    rw [idxC, if_pos hp, Nat.add_zero]
  | x :: l, j, k + 1, c, h, hp, hn => by
    rw [idxC, if_neg (by rw [hn 0 x (by omega) rfl]; decide), idxC_first p l (j + 1) k c (by simpa using h) hp (fun i y hi hy => hn (i + 1) y (by omega) (by simpa using hy))]
    congr 1; omega
theorem idxC_some (p : CG → Bool) : ∀ (l : List CG) (j : Nat), 0 ≤ idxC p j l → ∃ k c, idxC p j l = ((j + k : Nat) : Int) ∧ l[k]? = some c ∧ p c = true ∧ ∀ i x, i < k → l[i]? = some x → p x = false
  | [], j, h => by simp [idxC] at h
  | x :: l, j, h => by
    unfold idxC at h ⊢
    split
    · rename_i hp
      exact ⟨0, x, by simp, rfl, hp, fun i y hi => by omega⟩
    · rename_i hp
      rw [if_neg hp] at h
      obtain ⟨k, c, h1, h2, h3, h4⟩ := idxC_some p l (j + 1) h
      refine ⟨k + 1, c, by rw [h1]; congr 1; omega, by simpa using h2, h3, fun i y hi hy => ?_⟩
      cases i with
      | zero => simp at hy; subst hy; simpa using hp
      | succ i => exact h4 i y (by omega) (by simpa using hy)
end Go.Proofs.YtcpllhjhnfmepaaGreatDoor

/- schema.More once more: with great numbers. -/
namespace Go.Proofs.YtcpllhjhnfmepaaGreatDoor
set_option linter.all false
set_option linter.unusedSimpArgs false
set_option linter.unusedVariables false
open Go.RowKit
set_option maxRecDepth 100000 in
set_option maxHeartbeats 8000000 in
theorem more_big (l : List CG) (b o cap : Nat) (next : Int) (c : CG) (w : World) (hr : RC w (some ⟨b, o, none⟩) l) (hl : l.length ≤ 1000) (hn0 : 0 ≤ next) (hn1 : next ≤ 4611686018427387904) (hK : KeptAt w) :
    Calls Tryz.prog 16 #[.slice (some ⟨b, o, none⟩) l.length cap, .int .i64 next, .agg #[.int .i64 c.id, .string c.name, .int .i64 c.kind, .bool c.must, .int .i64 c.d.kind, .int .i64 c.d.num, .string c.d.text]] w (MRes w (morE l next c) (l ++ [morC c next]) next) := by
  have HF := Lib.hid (fun (W : World) hx => find_any l (some ⟨b, o, none⟩) cap c.name W (hr.ext (w' := W) hx) (by omega))
  have HC := Lib.hid (fun (W : World) hx => clone_any l b o cap W (hr.ext (w' := W) hx) hl)
  have HCB := Lib.hid (fun (W : World) hx => show Calls Tryz.prog 47 #[.agg #[.int .i64 next, .string c.name, .int .i64 c.kind, .bool c.must, .int .i64 c.d.kind, .int .i64 c.d.num, .string c.d.text]] W fun e w' => e = .returned (.bool (colB (morC c next))) ∧ Ext W w' from column_any (morC c next) W (hK.ext (w' := W) hx))
  obtain ⟨n, hn⟩ : ∃ n, n = l.length := ⟨_, rfl⟩
  have Hn := Lib.hid hn
  rw [← hn] at HF HC hl ⊢
  obtain ⟨ix, hix⟩ : ∃ ix, ix = idxC (nmEq c.name) 0 l := ⟨_, rfl⟩
  obtain ⟨cb, hcb⟩ : ∃ b, b = colB (morC c next) := ⟨_, rfl⟩
  rw [← hix] at HF
  rw [← hcb] at HCB
  obtain ⟨M, hM⟩ : ∃ M, M = l ++ [morC c next] := ⟨_, rfl⟩
  unfold morE
  rw [← hix, ← hcb, ← hM, ← hn]
  have HM := Lib.hid hM
  clear hix hcb hn hr hM hK
  have hw : IntKind.i64.wrap (next + 1) = next + 1 := IntWalk.i64_in _ (by omega)
  have hS := Hp.init w
  have hR := Reads.nil w
  by_cases hpos : 0 ≤ ix
  · rw [if_pos hpos]
    go_enter Tryz.func16, Tryz.ntmps16
    go_wp2_with (first | ((with_reducible first | refine nhLa ?_ | refine nhLs ?_ | refine nhLd ?_ | refine nhCa ?_ | refine nhCs ?_ | refine nhCd ?_ | refine nhPa ?_ | refine nhPs ?_ | refine nhPd ?_ | refine nhKa ?_ | refine nhKs ?_ | refine nhKd ?_); ((try clear hF); clear hS; intro wk hS; (try simp only [List.set_cons_zero, List.set_cons_succ, heap_size, heap_set_size] at hS); ((try clear hF); (first | have hF := And.intro hS.facts (hR.at hS.ext) | have hF := hS.facts); simp only [HFacts, cellFacts, RFacts, cellOnly, and_true, true_and, Nat.zero_add, Nat.reduceAdd] at hF))) | (go_at_call 27; (with_reducible refine (HF.out _ hS.ext).mono ?_); rintro e wk ⟨rfl, hX⟩; replace hS := hS.step hX; clear hX; ((try clear hF); (first | have hF := And.intro hS.facts (hR.at hS.ext) | have hF := hS.facts); simp only [HFacts, cellFacts, RFacts, cellOnly, and_true, true_and, Nat.zero_add, Nat.reduceAdd] at hF)))
    go_ret3
    exact MRes.bad (by decide) rfl hS.ext
  · rw [if_neg hpos]
    by_cases h8 : 8 ≤ n
    · rw [if_pos h8]
      go_enter Tryz.func16, Tryz.ntmps16
      go_wp2_with (first | ((with_reducible first | refine nhLa ?_ | refine nhLs ?_ | refine nhLd ?_ | refine nhCa ?_ | refine nhCs ?_ | refine nhCd ?_ | refine nhPa ?_ | refine nhPs ?_ | refine nhPd ?_ | refine nhKa ?_ | refine nhKs ?_ | refine nhKd ?_); ((try clear hF); clear hS; intro wk hS; (try simp only [List.set_cons_zero, List.set_cons_succ, heap_size, heap_set_size] at hS); ((try clear hF); (first | have hF := And.intro hS.facts (hR.at hS.ext) | have hF := hS.facts); simp only [HFacts, cellFacts, RFacts, cellOnly, and_true, true_and, Nat.zero_add, Nat.reduceAdd] at hF))) | (go_at_call 27; (with_reducible refine (HF.out _ hS.ext).mono ?_); rintro e wk ⟨rfl, hX⟩; replace hS := hS.step hX; clear hX; ((try clear hF); (first | have hF := And.intro hS.facts (hR.at hS.ext) | have hF := hS.facts); simp only [HFacts, cellFacts, RFacts, cellOnly, and_true, true_and, Nat.zero_add, Nat.reduceAdd] at hF)))
      go_ret3
      exact MRes.bad (by decide) rfl hS.ext
    · rw [if_neg h8]
      cases cb with
      | false =>
        rw [if_pos (by simp)]
        go_enter Tryz.func16, Tryz.ntmps16
        go_wp2_with (first | ((with_reducible first | refine nhLa ?_ | refine nhLs ?_ | refine nhLd ?_ | refine nhCa ?_ | refine nhCs ?_ | refine nhCd ?_ | refine nhPa ?_ | refine nhPs ?_ | refine nhPd ?_ | refine nhKa ?_ | refine nhKs ?_ | refine nhKd ?_); ((try clear hF); clear hS; intro wk hS; (try simp only [List.set_cons_zero, List.set_cons_succ, heap_size, heap_set_size] at hS); ((try clear hF); (first | have hF := And.intro hS.facts (hR.at hS.ext) | have hF := hS.facts); simp only [HFacts, cellFacts, RFacts, cellOnly, and_true, true_and, Nat.zero_add, Nat.reduceAdd] at hF))) | (go_at_call 27; (with_reducible refine (HF.out _ hS.ext).mono ?_); rintro e wk ⟨rfl, hX⟩; replace hS := hS.step hX; clear hX; ((try clear hF); (first | have hF := And.intro hS.facts (hR.at hS.ext) | have hF := hS.facts); simp only [HFacts, cellFacts, RFacts, cellOnly, and_true, true_and, Nat.zero_add, Nat.reduceAdd] at hF)) | (go_at_call 47; (with_reducible refine (HCB.out _ hS.ext).mono ?_); rintro e wk ⟨rfl, hX⟩; replace hS := hS.step hX; clear hX; ((try clear hF); (first | have hF := And.intro hS.facts (hR.at hS.ext) | have hF := hS.facts); simp only [HFacts, cellFacts, RFacts, cellOnly, and_true, true_and, Nat.zero_add, Nat.reduceAdd] at hF)))
        all_goals
          go_ret3
          exact MRes.bad (by decide) rfl hS.ext
      | true =>
        obtain ⟨cid, cnm, ckd, must, cdk, cdn, cdt⟩ := c
        simp only at HF HCB ⊢
        have HM3 := Lib.hid (show M = l ++ [⟨next, cnm, ckd, must, ⟨cdk, cdn, cdt⟩⟩] from HM.out)
        clear HM
        cases must with
        | true =>
          by_cases hd : cdk = 0
          · subst hd
            rw [if_pos (by simp)]
            go_enter Tryz.func16, Tryz.ntmps16
            go_wp2_with (first | ((with_reducible first | refine nhLa ?_ | refine nhLs ?_ | refine nhLd ?_ | refine nhCa ?_ | refine nhCs ?_ | refine nhCd ?_ | refine nhPa ?_ | refine nhPs ?_ | refine nhPd ?_ | refine nhKa ?_ | refine nhKs ?_ | refine nhKd ?_); ((try clear hF); clear hS; intro wk hS; (try simp only [List.set_cons_zero, List.set_cons_succ, heap_size, heap_set_size] at hS); ((try clear hF); (first | have hF := And.intro hS.facts (hR.at hS.ext) | have hF := hS.facts); simp only [HFacts, cellFacts, RFacts, cellOnly, and_true, true_and, Nat.zero_add, Nat.reduceAdd] at hF))) | (go_at_call 27; (with_reducible refine (HF.out _ hS.ext).mono ?_); rintro e wk ⟨rfl, hX⟩; replace hS := hS.step hX; clear hX; ((try clear hF); (first | have hF := And.intro hS.facts (hR.at hS.ext) | have hF := hS.facts); simp only [HFacts, cellFacts, RFacts, cellOnly, and_true, true_and, Nat.zero_add, Nat.reduceAdd] at hF)) | (go_at_call 47; (with_reducible refine (HCB.out _ hS.ext).mono ?_); rintro e wk ⟨rfl, hX⟩; replace hS := hS.step hX; clear hX; ((try clear hF); (first | have hF := And.intro hS.facts (hR.at hS.ext) | have hF := hS.facts); simp only [HFacts, cellFacts, RFacts, cellOnly, and_true, true_and, Nat.zero_add, Nat.reduceAdd] at hF)))
            go_ret3
            exact MRes.bad (by decide) rfl hS.ext
          · have hdb : (cdk == 0) = false := by simp [hd]
            rw [if_neg (by simp [hd])]
            clear hd
            go_enter Tryz.func16, Tryz.ntmps16
            go_wp2_with (first | ((with_reducible first | refine nhLa ?_ | refine nhLs ?_ | refine nhLd ?_ | refine nhCa ?_ | refine nhCs ?_ | refine nhCd ?_ | refine nhPa ?_ | refine nhPs ?_ | refine nhPd ?_ | refine nhKa ?_ | refine nhKs ?_ | refine nhKd ?_); ((try clear hF); clear hS; intro wk hS; (try simp only [List.set_cons_zero, List.set_cons_succ, heap_size, heap_set_size] at hS); ((try clear hF); (first | have hF := And.intro hS.facts (hR.at hS.ext) | have hF := hS.facts); simp only [HFacts, cellFacts, RFacts, cellOnly, and_true, true_and, Nat.zero_add, Nat.reduceAdd] at hF))) | (go_at_call 27; (with_reducible refine (HF.out _ hS.ext).mono ?_); rintro e wk ⟨rfl, hX⟩; replace hS := hS.step hX; clear hX; ((try clear hF); (first | have hF := And.intro hS.facts (hR.at hS.ext) | have hF := hS.facts); simp only [HFacts, cellFacts, RFacts, cellOnly, and_true, true_and, Nat.zero_add, Nat.reduceAdd] at hF)) | (go_at_call 47; (with_reducible refine (HCB.out _ hS.ext).mono ?_); rintro e wk ⟨rfl, hX⟩; replace hS := hS.step hX; clear hX; ((try clear hF); (first | have hF := And.intro hS.facts (hR.at hS.ext) | have hF := hS.facts); simp only [HFacts, cellFacts, RFacts, cellOnly, and_true, true_and, Nat.zero_add, Nat.reduceAdd] at hF)))
            ((with_reducible refine wp_region_braid_hp [.q, .t, .q, .t, .t, .q, .q, .t, .t, .t] [.blk w.heap.size [.int .i64 next, .string cnm, .int .i64 ckd, .bool true, .int .i64 cdk, .int .i64 cdn, .string cdt] 47] (by kernel_rfl) rfl (by kernel_rfl) hS (fun w h => h.sub (by simp)) ?_); clear hS; (repeat ((with_reducible refine Walk.here ?_); (first | ((with_reducible apply Walk.skipQ); (first | rfl | exact wanted_false rfl rfl rfl (by assumption)); (try simp only [Mark.isQ, if_true, Bool.false_eq_true, if_false, Act.put, List.setIfInBounds_toArray, List.set_cons_zero, List.set_cons_succ])) | ((with_reducible apply Walk.val); (first | rfl | exact wanted_true rfl rfl rfl (by assumption)); (rintro w hS; ((try clear hF); (first | have hF := And.intro hS.facts (hR.at hS.ext) | have hF := hS.facts); simp only [HFacts, cellFacts, RFacts, cellOnly, and_true, true_and, Nat.zero_add, Nat.reduceAdd] at hF); go_simp; with_reducible rfl); (try simp only [Mark.isQ, if_true, Bool.false_eq_true, if_false, Act.put, List.setIfInBounds_toArray, List.set_cons_zero, List.set_cons_succ])) | ((with_reducible apply Walk.tail); (try simp only [Mark.isQ, if_true, Bool.false_eq_true, if_false, Act.put, List.setIfInBounds_toArray, List.set_cons_zero, List.set_cons_succ])) | ((with_reducible apply Walk.guardT); rfl; rfl; rfl; (all_goals intro hg)) | ((with_reducible apply Walk.guardF); rfl; rfl; rfl; (all_goals intro hg))))); refine Walk.done ?_; show Braid _ _ _ _ 6 [1, 3, 4, 7, 8, 9] _ _)
            (refine Braid.next2 (i := 1) (j := 3) (by kernel_rfl) (by kernel_rfl) rfl rfl ?_ ?_ <;> (try simp only [List.getElem_toArray, List.getElem_cons_succ, List.getElem_cons_zero]))
            · (refine CStep.call (by (first | rfl | exact wanted_true rfl rfl rfl (by assumption))) (by rintro w hS; ((try clear hF); (first | have hF := And.intro hS.facts (hR.at hS.ext) | have hF := hS.facts); simp only [HFacts, cellFacts, RFacts, cellOnly, and_true, true_and, Nat.zero_add, Nat.reduceAdd] at hF); go_simp; exact ⟨rfl, rfl⟩) ?_; (intro W hS); (with_reducible refine Calls.mono (HC.out W hS.ext) ?_); rintro e wk ⟨A', cap', rfl, hW⟩; replace hS := hS.join hW; clear hW; simp only [List.cons_append, List.nil_append] at hS; unfold cRow at hS; rw [← Hn.out] at hS; refine ⟨_, _, rfl, hS, (fun w h => h.sub (by simp)), ?_⟩; (clear hS); try simp only [Act.put, List.setIfInBounds_toArray, List.set_cons_zero, List.set_cons_succ])
              (refine Braid.next1 (i := 3) (by kernel_rfl) (by kernel_rfl) rfl ?_; (try simp only [List.getElem_toArray, List.getElem_cons_succ, List.getElem_cons_zero]))
              (refine CStep.alloc (cs := [.int .i64 next, .string cnm, .int .i64 ckd, .bool true, .int .i64 cdk, .int .i64 cdn, .string cdt]) (t := 47) (f := fun g => .slice (some ⟨g, 0, none⟩) 1 1) (by (first | rfl | exact wanted_true rfl rfl rfl (by assumption))) (fun w h => h.sub (by simp)) (fun w hS => by ((try clear hF); (first | have hF := And.intro hS.facts (hR.at hS.ext) | have hF := hS.facts); simp only [HFacts, cellFacts, RFacts, cellOnly, and_true, true_and, Nat.zero_add, Nat.reduceAdd] at hF); go_simp) (fun gs => ?_); try simp only [Act.put, List.setIfInBounds_toArray, List.set_cons_zero, List.set_cons_succ])
              (refine Braid.next1 (i := 4) (by kernel_rfl) (by kernel_rfl) rfl ?_; (try simp only [List.getElem_toArray, List.getElem_cons_succ, List.getElem_cons_zero]))
              (refine CStep.append Tryz.elem_cols (by (first | rfl | exact wanted_true rfl rfl rfl (by assumption))) (.tmp 39) (.tmp 41) rfl 1 rfl rfl rfl ⟨gs, 0, none⟩ rfl rfl (fun w hS jj u hu => World.news_of_block (hS.blkAt 0 rfl) jj u (by simpa using hu)) (by simp [Value.oneCell']) (by omega) (by omega) (fun w h => h.sub (by simp)) (fun Ak capk => ?_); try simp only [Act.put, List.setIfInBounds_toArray, List.set_cons_zero, List.set_cons_succ])
              ((refine Braid.next1 (i := 7) (by kernel_rfl) (by kernel_rfl) rfl ?_); (try simp only [List.getElem_toArray, List.getElem_cons_succ, List.getElem_cons_zero]); (refine CStep.val (by (first | rfl | exact wanted_true rfl rfl rfl (by assumption))) (fun w h => h.sub (by simp)) (by rintro w hS; ((try clear hF); (first | have hF := And.intro hS.facts (hR.at hS.ext) | have hF := hS.facts); simp only [HFacts, cellFacts, RFacts, cellOnly, and_true, true_and, Nat.zero_add, Nat.reduceAdd] at hF); go_simp; with_reducible rfl) ?_); try simp only [Act.put, List.setIfInBounds_toArray, List.set_cons_zero, List.set_cons_succ])
              ((refine Braid.next1 (i := 8) (by kernel_rfl) (by kernel_rfl) rfl ?_); (try simp only [List.getElem_toArray, List.getElem_cons_succ, List.getElem_cons_zero]); (refine CStep.val (by (first | rfl | exact wanted_true rfl rfl rfl (by assumption))) (fun w h => h.sub (by simp)) (by rintro w hS; ((try clear hF); (first | have hF := And.intro hS.facts (hR.at hS.ext) | have hF := hS.facts); simp only [HFacts, cellFacts, RFacts, cellOnly, and_true, true_and, Nat.zero_add, Nat.reduceAdd] at hF); go_simp; with_reducible rfl) ?_); try simp only [Act.put, List.setIfInBounds_toArray, List.set_cons_zero, List.set_cons_succ])
              ((refine Braid.next1 (i := 9) (by kernel_rfl) (by kernel_rfl) rfl ?_); (try simp only [List.getElem_toArray, List.getElem_cons_succ, List.getElem_cons_zero]); (refine CStep.val (by (first | rfl | exact wanted_true rfl rfl rfl (by assumption))) (fun w h => h.sub (by simp)) (by rintro w hS; ((try clear hF); (first | have hF := And.intro hS.facts (hR.at hS.ext) | have hF := hS.facts); simp only [HFacts, cellFacts, RFacts, cellOnly, and_true, true_and, Nat.zero_add, Nat.reduceAdd] at hF); go_simp; with_reducible rfl) ?_); try simp only [Act.put, List.setIfInBounds_toArray, List.set_cons_zero, List.set_cons_succ])
              (refine Braid.last (by kernel_rfl) ?_; (try clear hF); intro wk hS; ((try clear hF); (first | have hF := And.intro hS.facts (hR.at hS.ext) | have hF := hS.facts); simp only [HFacts, cellFacts, RFacts, cellOnly, and_true, true_and, Nat.zero_add, Nat.reduceAdd] at hF))
              go_wp2_with fail
              go_ret3
              have hml : M.length = n + 1 := by rw [HM3.out, List.length_append, ← Hn.out]; rfl
              exact MRes.good (by rw [hml]; rfl) (by rw [HM3.out]; exact cRow_push Hn.out (hS.sub (by simp)))
            · (refine CStep.alloc (cs := [.int .i64 next, .string cnm, .int .i64 ckd, .bool true, .int .i64 cdk, .int .i64 cdn, .string cdt]) (t := 47) (f := fun g => .slice (some ⟨g, 0, none⟩) 1 1) (by (first | rfl | exact wanted_true rfl rfl rfl (by assumption))) (fun w h => h.sub (by simp)) (fun w hS => by ((try clear hF); (first | have hF := And.intro hS.facts (hR.at hS.ext) | have hF := hS.facts); simp only [HFacts, cellFacts, RFacts, cellOnly, and_true, true_and, Nat.zero_add, Nat.reduceAdd] at hF); go_simp) (fun gs => ?_); try simp only [Act.put, List.setIfInBounds_toArray, List.set_cons_zero, List.set_cons_succ])
              (refine Braid.next1 (i := 1) (by kernel_rfl) (by kernel_rfl) rfl ?_; (try simp only [List.getElem_toArray, List.getElem_cons_succ, List.getElem_cons_zero]))
              (refine CStep.call (by (first | rfl | exact wanted_true rfl rfl rfl (by assumption))) (by rintro w hS; ((try clear hF); (first | have hF := And.intro hS.facts (hR.at hS.ext) | have hF := hS.facts); simp only [HFacts, cellFacts, RFacts, cellOnly, and_true, true_and, Nat.zero_add, Nat.reduceAdd] at hF); go_simp; exact ⟨rfl, rfl⟩) ?_; (intro W hS); (with_reducible refine Calls.mono (HC.out W hS.ext) ?_); rintro e wk ⟨A', cap', rfl, hW⟩; replace hS := hS.join hW; clear hW; simp only [List.cons_append, List.nil_append] at hS; unfold cRow at hS; rw [← Hn.out] at hS; refine ⟨_, _, rfl, hS, (fun w h => h.sub (by simp)), ?_⟩; (clear hS); try simp only [Act.put, List.setIfInBounds_toArray, List.set_cons_zero, List.set_cons_succ])
              (refine Braid.next1 (i := 4) (by kernel_rfl) (by kernel_rfl) rfl ?_; (try simp only [List.getElem_toArray, List.getElem_cons_succ, List.getElem_cons_zero]))
              (refine CStep.append Tryz.elem_cols (by (first | rfl | exact wanted_true rfl rfl rfl (by assumption))) (.tmp 39) (.tmp 41) rfl 0 rfl rfl rfl ⟨gs, 0, none⟩ rfl rfl (fun w hS jj u hu => World.news_of_block (hS.blkAt 1 rfl) jj u (by simpa using hu)) (by simp [Value.oneCell']) (by omega) (by omega) (fun w h => h.sub (by simp)) (fun Ak capk => ?_); try simp only [Act.put, List.setIfInBounds_toArray, List.set_cons_zero, List.set_cons_succ])
              ((refine Braid.next1 (i := 7) (by kernel_rfl) (by kernel_rfl) rfl ?_); (try simp only [List.getElem_toArray, List.getElem_cons_succ, List.getElem_cons_zero]); (refine CStep.val (by (first | rfl | exact wanted_true rfl rfl rfl (by assumption))) (fun w h => h.sub (by simp)) (by rintro w hS; ((try clear hF); (first | have hF := And.intro hS.facts (hR.at hS.ext) | have hF := hS.facts); simp only [HFacts, cellFacts, RFacts, cellOnly, and_true, true_and, Nat.zero_add, Nat.reduceAdd] at hF); go_simp; with_reducible rfl) ?_); try simp only [Act.put, List.setIfInBounds_toArray, List.set_cons_zero, List.set_cons_succ])
              ((refine Braid.next1 (i := 8) (by kernel_rfl) (by kernel_rfl) rfl ?_); (try simp only [List.getElem_toArray, List.getElem_cons_succ, List.getElem_cons_zero]); (refine CStep.val (by (first | rfl | exact wanted_true rfl rfl rfl (by assumption))) (fun w h => h.sub (by simp)) (by rintro w hS; ((try clear hF); (first | have hF := And.intro hS.facts (hR.at hS.ext) | have hF := hS.facts); simp only [HFacts, cellFacts, RFacts, cellOnly, and_true, true_and, Nat.zero_add, Nat.reduceAdd] at hF); go_simp; with_reducible rfl) ?_); try simp only [Act.put, List.setIfInBounds_toArray, List.set_cons_zero, List.set_cons_succ])
              ((refine Braid.next1 (i := 9) (by kernel_rfl) (by kernel_rfl) rfl ?_); (try simp only [List.getElem_toArray, List.getElem_cons_succ, List.getElem_cons_zero]); (refine CStep.val (by (first | rfl | exact wanted_true rfl rfl rfl (by assumption))) (fun w h => h.sub (by simp)) (by rintro w hS; ((try clear hF); (first | have hF := And.intro hS.facts (hR.at hS.ext) | have hF := hS.facts); simp only [HFacts, cellFacts, RFacts, cellOnly, and_true, true_and, Nat.zero_add, Nat.reduceAdd] at hF); go_simp; with_reducible rfl) ?_); try simp only [Act.put, List.setIfInBounds_toArray, List.set_cons_zero, List.set_cons_succ])
              (refine Braid.last (by kernel_rfl) ?_; (try clear hF); intro wk hS; ((try clear hF); (first | have hF := And.intro hS.facts (hR.at hS.ext) | have hF := hS.facts); simp only [HFacts, cellFacts, RFacts, cellOnly, and_true, true_and, Nat.zero_add, Nat.reduceAdd] at hF))
              go_wp2_with fail
              go_ret3
              have hml : M.length = n + 1 := by rw [HM3.out, List.length_append, ← Hn.out]; rfl
              exact MRes.good (by rw [hml]; rfl) (by rw [HM3.out]; exact cRow_push Hn.out (hS.sub (by simp)))
        | false =>
          rw [if_neg (by simp)]
          go_enter Tryz.func16, Tryz.ntmps16
          go_wp2_with (first | ((with_reducible first | refine nhLa ?_ | refine nhLs ?_ | refine nhLd ?_ | refine nhCa ?_ | refine nhCs ?_ | refine nhCd ?_ | refine nhPa ?_ | refine nhPs ?_ | refine nhPd ?_ | refine nhKa ?_ | refine nhKs ?_ | refine nhKd ?_); ((try clear hF); clear hS; intro wk hS; (try simp only [List.set_cons_zero, List.set_cons_succ, heap_size, heap_set_size] at hS); ((try clear hF); (first | have hF := And.intro hS.facts (hR.at hS.ext) | have hF := hS.facts); simp only [HFacts, cellFacts, RFacts, cellOnly, and_true, true_and, Nat.zero_add, Nat.reduceAdd] at hF))) | (go_at_call 27; (with_reducible refine (HF.out _ hS.ext).mono ?_); rintro e wk ⟨rfl, hX⟩; replace hS := hS.step hX; clear hX; ((try clear hF); (first | have hF := And.intro hS.facts (hR.at hS.ext) | have hF := hS.facts); simp only [HFacts, cellFacts, RFacts, cellOnly, and_true, true_and, Nat.zero_add, Nat.reduceAdd] at hF)) | (go_at_call 47; (with_reducible refine (HCB.out _ hS.ext).mono ?_); rintro e wk ⟨rfl, hX⟩; replace hS := hS.step hX; clear hX; ((try clear hF); (first | have hF := And.intro hS.facts (hR.at hS.ext) | have hF := hS.facts); simp only [HFacts, cellFacts, RFacts, cellOnly, and_true, true_and, Nat.zero_add, Nat.reduceAdd] at hF)))
          ((with_reducible refine wp_region_braid_hp [.q, .t, .q, .t, .t, .q, .q, .t, .t, .t] [.blk w.heap.size [.int .i64 next, .string cnm, .int .i64 ckd, .bool false, .int .i64 cdk, .int .i64 cdn, .string cdt] 47] (by kernel_rfl) rfl (by kernel_rfl) hS (fun w h => h.sub (by simp)) ?_); clear hS; (repeat ((with_reducible refine Walk.here ?_); (first | ((with_reducible apply Walk.skipQ); (first | rfl | exact wanted_false rfl rfl rfl (by assumption)); (try simp only [Mark.isQ, if_true, Bool.false_eq_true, if_false, Act.put, List.setIfInBounds_toArray, List.set_cons_zero, List.set_cons_succ])) | ((with_reducible apply Walk.val); (first | rfl | exact wanted_true rfl rfl rfl (by assumption)); (rintro w hS; ((try clear hF); (first | have hF := And.intro hS.facts (hR.at hS.ext) | have hF := hS.facts); simp only [HFacts, cellFacts, RFacts, cellOnly, and_true, true_and, Nat.zero_add, Nat.reduceAdd] at hF); go_simp; with_reducible rfl); (try simp only [Mark.isQ, if_true, Bool.false_eq_true, if_false, Act.put, List.setIfInBounds_toArray, List.set_cons_zero, List.set_cons_succ])) | ((with_reducible apply Walk.tail); (try simp only [Mark.isQ, if_true, Bool.false_eq_true, if_false, Act.put, List.setIfInBounds_toArray, List.set_cons_zero, List.set_cons_succ])) | ((with_reducible apply Walk.guardT); rfl; rfl; rfl; (all_goals intro hg)) | ((with_reducible apply Walk.guardF); rfl; rfl; rfl; (all_goals intro hg))))); refine Walk.done ?_; show Braid _ _ _ _ 6 [1, 3, 4, 7, 8, 9] _ _)
          (refine Braid.next2 (i := 1) (j := 3) (by kernel_rfl) (by kernel_rfl) rfl rfl ?_ ?_ <;> (try simp only [List.getElem_toArray, List.getElem_cons_succ, List.getElem_cons_zero]))
          · (refine CStep.call (by (first | rfl | exact wanted_true rfl rfl rfl (by assumption))) (by rintro w hS; ((try clear hF); (first | have hF := And.intro hS.facts (hR.at hS.ext) | have hF := hS.facts); simp only [HFacts, cellFacts, RFacts, cellOnly, and_true, true_and, Nat.zero_add, Nat.reduceAdd] at hF); go_simp; exact ⟨rfl, rfl⟩) ?_; (intro W hS); (with_reducible refine Calls.mono (HC.out W hS.ext) ?_); rintro e wk ⟨A', cap', rfl, hW⟩; replace hS := hS.join hW; clear hW; simp only [List.cons_append, List.nil_append] at hS; unfold cRow at hS; rw [← Hn.out] at hS; refine ⟨_, _, rfl, hS, (fun w h => h.sub (by simp)), ?_⟩; (clear hS); try simp only [Act.put, List.setIfInBounds_toArray, List.set_cons_zero, List.set_cons_succ])
            (refine Braid.next1 (i := 3) (by kernel_rfl) (by kernel_rfl) rfl ?_; (try simp only [List.getElem_toArray, List.getElem_cons_succ, List.getElem_cons_zero]))
            (refine CStep.alloc (cs := [.int .i64 next, .string cnm, .int .i64 ckd, .bool false, .int .i64 cdk, .int .i64 cdn, .string cdt]) (t := 47) (f := fun g => .slice (some ⟨g, 0, none⟩) 1 1) (by (first | rfl | exact wanted_true rfl rfl rfl (by assumption))) (fun w h => h.sub (by simp)) (fun w hS => by ((try clear hF); (first | have hF := And.intro hS.facts (hR.at hS.ext) | have hF := hS.facts); simp only [HFacts, cellFacts, RFacts, cellOnly, and_true, true_and, Nat.zero_add, Nat.reduceAdd] at hF); go_simp) (fun gs => ?_); try simp only [Act.put, List.setIfInBounds_toArray, List.set_cons_zero, List.set_cons_succ])
            (refine Braid.next1 (i := 4) (by kernel_rfl) (by kernel_rfl) rfl ?_; (try simp only [List.getElem_toArray, List.getElem_cons_succ, List.getElem_cons_zero]))
            (refine CStep.append Tryz.elem_cols (by (first | rfl | exact wanted_true rfl rfl rfl (by assumption))) (.tmp 39) (.tmp 41) rfl 1 rfl rfl rfl ⟨gs, 0, none⟩ rfl rfl (fun w hS jj u hu => World.news_of_block (hS.blkAt 0 rfl) jj u (by simpa using hu)) (by simp [Value.oneCell']) (by omega) (by omega) (fun w h => h.sub (by simp)) (fun Ak capk => ?_); try simp only [Act.put, List.setIfInBounds_toArray, List.set_cons_zero, List.set_cons_succ])
            ((refine Braid.next1 (i := 7) (by kernel_rfl) (by kernel_rfl) rfl ?_); (try simp only [List.getElem_toArray, List.getElem_cons_succ, List.getElem_cons_zero]); (refine CStep.val (by (first | rfl | exact wanted_true rfl rfl rfl (by assumption))) (fun w h => h.sub (by simp)) (by rintro w hS; ((try clear hF); (first | have hF := And.intro hS.facts (hR.at hS.ext) | have hF := hS.facts); simp only [HFacts, cellFacts, RFacts, cellOnly, and_true, true_and, Nat.zero_add, Nat.reduceAdd] at hF); go_simp; with_reducible rfl) ?_); try simp only [Act.put, List.setIfInBounds_toArray, List.set_cons_zero, List.set_cons_succ])
            ((refine Braid.next1 (i := 8) (by kernel_rfl) (by kernel_rfl) rfl ?_); (try simp only [List.getElem_toArray, List.getElem_cons_succ, List.getElem_cons_zero]); (refine CStep.val (by (first | rfl | exact wanted_true rfl rfl rfl (by assumption))) (fun w h => h.sub (by simp)) (by rintro w hS; ((try clear hF); (first | have hF := And.intro hS.facts (hR.at hS.ext) | have hF := hS.facts); simp only [HFacts, cellFacts, RFacts, cellOnly, and_true, true_and, Nat.zero_add, Nat.reduceAdd] at hF); go_simp; with_reducible rfl) ?_); try simp only [Act.put, List.setIfInBounds_toArray, List.set_cons_zero, List.set_cons_succ])
            ((refine Braid.next1 (i := 9) (by kernel_rfl) (by kernel_rfl) rfl ?_); (try simp only [List.getElem_toArray, List.getElem_cons_succ, List.getElem_cons_zero]); (refine CStep.val (by (first | rfl | exact wanted_true rfl rfl rfl (by assumption))) (fun w h => h.sub (by simp)) (by rintro w hS; ((try clear hF); (first | have hF := And.intro hS.facts (hR.at hS.ext) | have hF := hS.facts); simp only [HFacts, cellFacts, RFacts, cellOnly, and_true, true_and, Nat.zero_add, Nat.reduceAdd] at hF); go_simp; with_reducible rfl) ?_); try simp only [Act.put, List.setIfInBounds_toArray, List.set_cons_zero, List.set_cons_succ])
            (refine Braid.last (by kernel_rfl) ?_; (try clear hF); intro wk hS; ((try clear hF); (first | have hF := And.intro hS.facts (hR.at hS.ext) | have hF := hS.facts); simp only [HFacts, cellFacts, RFacts, cellOnly, and_true, true_and, Nat.zero_add, Nat.reduceAdd] at hF))
            go_wp2_with fail
            go_ret3
            have hml : M.length = n + 1 := by rw [HM3.out, List.length_append, ← Hn.out]; rfl
            exact MRes.good (by rw [hml]; rfl) (by rw [HM3.out]; exact cRow_push Hn.out (hS.sub (by simp)))
          · (refine CStep.alloc (cs := [.int .i64 next, .string cnm, .int .i64 ckd, .bool false, .int .i64 cdk, .int .i64 cdn, .string cdt]) (t := 47) (f := fun g => .slice (some ⟨g, 0, none⟩) 1 1) (by (first | rfl | exact wanted_true rfl rfl rfl (by assumption))) (fun w h => h.sub (by simp)) (fun w hS => by ((try clear hF); (first | have hF := And.intro hS.facts (hR.at hS.ext) | have hF := hS.facts); simp only [HFacts, cellFacts, RFacts, cellOnly, and_true, true_and, Nat.zero_add, Nat.reduceAdd] at hF); go_simp) (fun gs => ?_); try simp only [Act.put, List.setIfInBounds_toArray, List.set_cons_zero, List.set_cons_succ])
            (refine Braid.next1 (i := 1) (by kernel_rfl) (by kernel_rfl) rfl ?_; (try simp only [List.getElem_toArray, List.getElem_cons_succ, List.getElem_cons_zero]))
            (refine CStep.call (by (first | rfl | exact wanted_true rfl rfl rfl (by assumption))) (by rintro w hS; ((try clear hF); (first | have hF := And.intro hS.facts (hR.at hS.ext) | have hF := hS.facts); simp only [HFacts, cellFacts, RFacts, cellOnly, and_true, true_and, Nat.zero_add, Nat.reduceAdd] at hF); go_simp; exact ⟨rfl, rfl⟩) ?_; (intro W hS); (with_reducible refine Calls.mono (HC.out W hS.ext) ?_); rintro e wk ⟨A', cap', rfl, hW⟩; replace hS := hS.join hW; clear hW; simp only [List.cons_append, List.nil_append] at hS; unfold cRow at hS; rw [← Hn.out] at hS; refine ⟨_, _, rfl, hS, (fun w h => h.sub (by simp)), ?_⟩; (clear hS); try simp only [Act.put, List.setIfInBounds_toArray, List.set_cons_zero, List.set_cons_succ])
            (refine Braid.next1 (i := 4) (by kernel_rfl) (by kernel_rfl) rfl ?_; (try simp only [List.getElem_toArray, List.getElem_cons_succ, List.getElem_cons_zero]))
            (refine CStep.append Tryz.elem_cols (by (first | rfl | exact wanted_true rfl rfl rfl (by assumption))) (.tmp 39) (.tmp 41) rfl 0 rfl rfl rfl ⟨gs, 0, none⟩ rfl rfl (fun w hS jj u hu => World.news_of_block (hS.blkAt 1 rfl) jj u (by simpa using hu)) (by simp [Value.oneCell']) (by omega) (by omega) (fun w h => h.sub (by simp)) (fun Ak capk => ?_); try simp only [Act.put, List.setIfInBounds_toArray, List.set_cons_zero, List.set_cons_succ])
            ((refine Braid.next1 (i := 7) (by kernel_rfl) (by kernel_rfl) rfl ?_); (try simp only [List.getElem_toArray, List.getElem_cons_succ, List.getElem_cons_zero]); (refine CStep.val (by (first | rfl | exact wanted_true rfl rfl rfl (by assumption))) (fun w h => h.sub (by simp)) (by rintro w hS; ((try clear hF); (first | have hF := And.intro hS.facts (hR.at hS.ext) | have hF := hS.facts); simp only [HFacts, cellFacts, RFacts, cellOnly, and_true, true_and, Nat.zero_add, Nat.reduceAdd] at hF); go_simp; with_reducible rfl) ?_); try simp only [Act.put, List.setIfInBounds_toArray, List.set_cons_zero, List.set_cons_succ])
            ((refine Braid.next1 (i := 8) (by kernel_rfl) (by kernel_rfl) rfl ?_); (try simp only [List.getElem_toArray, List.getElem_cons_succ, List.getElem_cons_zero]); (refine CStep.val (by (first | rfl | exact wanted_true rfl rfl rfl (by assumption))) (fun w h => h.sub (by simp)) (by rintro w hS; ((try clear hF); (first | have hF := And.intro hS.facts (hR.at hS.ext) | have hF := hS.facts); simp only [HFacts, cellFacts, RFacts, cellOnly, and_true, true_and, Nat.zero_add, Nat.reduceAdd] at hF); go_simp; with_reducible rfl) ?_); try simp only [Act.put, List.setIfInBounds_toArray, List.set_cons_zero, List.set_cons_succ])
            ((refine Braid.next1 (i := 9) (by kernel_rfl) (by kernel_rfl) rfl ?_); (try simp only [List.getElem_toArray, List.getElem_cons_succ, List.getElem_cons_zero]); (refine CStep.val (by (first | rfl | exact wanted_true rfl rfl rfl (by assumption))) (fun w h => h.sub (by simp)) (by rintro w hS; ((try clear hF); (first | have hF := And.intro hS.facts (hR.at hS.ext) | have hF := hS.facts); simp only [HFacts, cellFacts, RFacts, cellOnly, and_true, true_and, Nat.zero_add, Nat.reduceAdd] at hF); go_simp; with_reducible rfl) ?_); try simp only [Act.put, List.setIfInBounds_toArray, List.set_cons_zero, List.set_cons_succ])
            (refine Braid.last (by kernel_rfl) ?_; (try clear hF); intro wk hS; ((try clear hF); (first | have hF := And.intro hS.facts (hR.at hS.ext) | have hF := hS.facts); simp only [HFacts, cellFacts, RFacts, cellOnly, and_true, true_and, Nat.zero_add, Nat.reduceAdd] at hF))
            go_wp2_with fail
            go_ret3
            have hml : M.length = n + 1 := by rw [HM3.out, List.length_append, ← Hn.out]; rfl
            exact MRes.good (by rw [hml]; rfl) (by rw [HM3.out]; exact cRow_push Hn.out (hS.sub (by simp)))
end Go.Proofs.YtcpllhjhnfmepaaGreatDoor

/- What is known of values, plainly: who is passed by had nothing; two parts are the whole. No program. -/
namespace Go.Proofs.YtcpllhjhnfmepaaGreatDoor
set_option linter.all false

/-- what is known of values -/
structure ST where
  count : Int
  nulls : Int
  mn : GV
  mx : GV
def stepS (s : ST) (v : GV) : ST :=
  if v.kind = 0 then { s with nulls := s.nulls + 1 }
  else { s with mn := if s.mn.kind = 0 ∨ cmpG v s.mn < 0 then v else s.mn, mx := if s.mx.kind = 0 ∨ 0 < cmpG v s.mx then v else s.mx }
def ofS (l : List GV) : ST := l.foldl stepS ⟨l.length, 0, zeroV, zeroV⟩
/-- what is known of a list, told by its members -/
structure KnowS (l : List GV) (s : ST) : Prop where
  count : s.count = l.length
  nulls : s.nulls = (l.filter fun v => decide (v.kind = 0)).length
  mn : (∀ v ∈ l, v.kind = 0) ∧ s.mn = zeroV ∨ s.mn ∈ l ∧ s.mn.kind ≠ 0 ∧ ∀ v ∈ l, v.kind ≠ 0 → cmpG s.mn v ≤ 0
  mx : (∀ v ∈ l, v.kind = 0) ∧ s.mx = zeroV ∨ s.mx ∈ l ∧ s.mx.kind ≠ 0 ∧ ∀ v ∈ l, v.kind ≠ 0 → cmpG v s.mx ≤ 0

end Go.Proofs.YtcpllhjhnfmepaaGreatDoor

/- stats: values as Go has them; what the walks of stats lean on. -/
namespace Go.Proofs.YtcpllhjhnfmepaaGreatDoor
set_option linter.all false
set_option linter.unusedSimpArgs false
set_option linter.unusedVariables false
open Go.RowKit

def stV (s : ST) : Value := .agg #[.int .i64 s.count, .int .i64 s.nulls, .int .i64 s.mn.kind, .int .i64 s.mn.num, .string s.mn.text, .int .i64 s.mx.kind, .int .i64 s.mx.num, .string s.mx.text]

/-- the blocks of stats.Both: b at B, the result at B + 1, out at B + 1 + 1 -/
structure BothF (w : World) (B : Nat) (b : ST) (c n : Int) (p q : GV) (wx : World) : Prop where
  b2 : wx.cell? ⟨B, 2, none⟩ = some (.int .i64 b.mn.kind)
  b3 : wx.cell? ⟨B, 3, none⟩ = some (.int .i64 b.mn.num)
  b4 : wx.cell? ⟨B, 4, none⟩ = some (.string b.mn.text)
  b5 : wx.cell? ⟨B, 5, none⟩ = some (.int .i64 b.mx.kind)
  b6 : wx.cell? ⟨B, 6, none⟩ = some (.int .i64 b.mx.num)
  b7 : wx.cell? ⟨B, 7, none⟩ = some (.string b.mx.text)
  r : wx.heap[B + 1]? = some (.cells #[.int .i64 0, .int .i64 0, .int .i64 0, .int .i64 0, .string ⟨#[]⟩, .int .i64 0, .int .i64 0, .string ⟨#[]⟩] 70 (0, 0))
  o : wx.heap[B + 1 + 1]? = some (.cells #[.int .i64 c, .int .i64 n, .int .i64 p.kind, .int .i64 p.num, .string p.text, .int .i64 q.kind, .int .i64 q.num, .string q.text] 70 (0, 0))
  x : Ext w wx
theorem BothF.ext {w : World} {B : Nat} {b : ST} {c n : Int} {p q : GV} {wx wy : World} (h : BothF w B b c n p q wx) (hx : Ext wx wy) : BothF w B b c n p q wy :=
  ⟨hx.keeps h.b2, hx.keeps h.b3, hx.keeps h.b4, hx.keeps h.b5, hx.keeps h.b6, hx.keeps h.b7, heap_keeps hx h.r, heap_keeps hx h.o, h.x.trans hx⟩

end Go.Proofs.YtcpllhjhnfmepaaGreatDoor

/- stats.one, stats.may, stats.May -/
namespace Go.Proofs.YtcpllhjhnfmepaaGreatDoor
set_option linter.all false
set_option linter.unusedSimpArgs false
set_option linter.unusedVariables false
open Go.RowKit
end Go.Proofs.YtcpllhjhnfmepaaGreatDoor
