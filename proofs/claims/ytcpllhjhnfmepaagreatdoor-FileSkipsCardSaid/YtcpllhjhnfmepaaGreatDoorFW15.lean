/- Texts joined: An argument that is a slice of parts: what its cells hold. the reader of encode: number, signed, small, take, one. the reader of encode: signed. the reader of encode: small. the reader of encode: take. columns keep their numbers: the plain law of SchemaNumbers. What is known of values, plainly: who is passed by had nothing; two parts are the whole. No program. stats: values as Go has them; what the walks of stats lean on. stats.one, stats.may, stats.May -/
import Derived.Test.YtcpllhjhnfmepaaGreatDoorFW01
import Derived.Test.YtcpllhjhnfmepaaGreatDoorFW12
import Derived.Deep.Slices
import Derived.Deep.Fields
import Derived.ChangeSame
import Derived.Test.YtcpllhjhnfmepaaGreatDoorFW13
import Derived.Test.YtcpllhjhnfmepaaGreatDoorFW14
import Derived.Test.YtcpllhjhnfmepaaGreatDoorFW03
import Derived.Deep.DeepCutAuto
import Derived.Test.YtcpllhjhnfmepaaGreatDoorFW02
/- An argument that is a slice of parts: what its cells hold. -/
namespace Go.Proofs.YtcpllhjhnfmepaaGreatDoor
set_option linter.all false
set_option linter.unusedSimpArgs false
set_option linter.unusedVariables false
open Go.RowKit
open Go.ChangeShapes Go.WideShapes Go.ChangeAt Go.Joins Go.Deep

theorem Tryz.cellsPart : Tryz.prog.cellsOf 114 = 5 := by kernel_rfl
theorem Tryz.bytesPart : Tryz.prog.bytesOf 114 = 56 := by kernel_rfl

set_option maxRecDepth 100000 in
/-- the cells of a part -/
theorem part_cells {H : Type} {enc : TypeId × Value → H} {w : World} {base fuel : Nat} {spare : Nat → Bool} {held : Bool} {cs : List Value} {x : DataW H × List MemPlace} (h : DataW.trod enc Tryz.prog w base spare held fuel 114 cs = some x) :
    ∃ p : PG, cs = [.int .i64 p.code, .string p.col, .int .i64 p.v.kind, .int .i64 p.v.num, .string p.v.text] := by
  obtain ⟨y0, y1, y2, n, _, hl, h0, h1, h2⟩ := trod_struct3 Tryz.underlying114 h
  rw [Tryz.cellsPart] at hl
  match cs, hl with
  | [c0, c1, c2, c3, c4], _ =>
    simp only [Tryz.cellsInt, Tryz.cellsString, Tryz.cellsVal, List.drop_zero, List.drop_succ_cons, List.take_succ_cons, List.take_zero] at h0 h1 h2
    obtain ⟨k, e0, _, _⟩ := DataW.trod_int Tryz.underlying3 h0
    obtain ⟨col, e1, _, _⟩ := DataW.trod_string Tryz.underlying9 h1
    obtain ⟨z0, z1, z2, n', _, _, g0, g1, g2⟩ := trod_struct3 Tryz.underlying45 h2
    simp only [Tryz.cellsInt, Tryz.cellsInt64, Tryz.cellsString, List.drop_zero, List.drop_succ_cons, List.take_succ_cons, List.take_zero] at g0 g1 g2
    obtain ⟨kind, e2, _, _⟩ := DataW.trod_int Tryz.underlying3 g0
    obtain ⟨num, e3, _, _⟩ := DataW.trod_int Tryz.underlying2 g1
    obtain ⟨text, e4, _, _⟩ := DataW.trod_string Tryz.underlying9 g2
    simp only [List.cons.injEq, and_true] at e0 e1 e2 e3 e4
    subst e0 e1 e2 e3 e4
    exact ⟨⟨k, col, ⟨kind, num, text⟩⟩, rfl⟩

set_option maxRecDepth 100000 in
/-- a slice of parts that comes in -/
theorem open_parts {H : Type} {enc : TypeId × Value → H} {w : World} {base b0 : Nat} {r : Reach} {v : Value} {d : DataW H} {p : List MemPlace}
    (hv : Value.okWide Tryz.prog w r b0 59 v) (h : DataW.Trod enc Tryz.prog w base (fun _ => true) true 59 v d p) (hz : ∀ n ∈ d.weights Tryz.prog 59, n ≤ reachBytes) :
    ∃ (l : List PG) (A : Option Addr) (c : Nat), v = .slice A l.length c ∧ RP w A l ∧ l.length ≤ 140737488355328 := by
  obtain ⟨a0, len, cap, rfl⟩ := okWide_slice Tryz.underlying59 hv
  obtain ⟨fuel, hf⟩ := h
  rcases open_slice Tryz.underlying59 hf with ⟨hcs, hx⟩ | ⟨a, len', cap', m, n, D, Pl, hcs, hb, hl, hm, hmm, hx, hi⟩
  · simp [Value.cells] at hcs
    obtain ⟨rfl, rfl, rfl⟩ := hcs
    exact ⟨[], none, 0, rfl, fun i x hi => by simp at hi, by simp⟩
  · simp [Value.cells] at hcs
    obtain ⟨rfl, rfl, rfl⟩ := hcs
    rw [Tryz.cellsPart] at hi
    have hlm : len ≤ m := by rw [hmm]; split <;> omega
    obtain ⟨l, hll, hq⟩ := list_of (Q := fun i (x : PG) => ∀ j u, [Value.int .i64 x.code, .string x.col, .int .i64 x.v.kind, .int .i64 x.v.num, .string x.v.text][j]? = some u → w.cell? (a.add (i * 5 + j)) = some u) len (fun i hil => by
      obtain ⟨cs', hc, ht⟩ := hi i (by omega)
      obtain ⟨x, rfl⟩ := part_cells ht
      obtain ⟨_, hcl, hat⟩ := World.cells?_some hc
      refine ⟨x, fun j u hu => ?_⟩
      have hj : j < 5 := by
        have := (List.getElem?_eq_some_iff.1 hu).1
        simpa using this
      rw [← Go.Deep.add_add, hat j hj, hu])
    refine ⟨l, some a, cap, by rw [hll], ?_, ?_⟩
    · intro i x hx'
      have q := hq i x hx'
      have q0 := q 0 _ rfl
      have q1 := q 1 _ rfl
      have q2 := q 2 _ rfl
      have q3 := q 3 _ rfl
      have q4 := q 4 _ rfl
      have hil : i < l.length := (List.getElem?_eq_some_iff.1 hx').1
      have z0 : w.cell? a = some (.int .i64 (l[0]'(by omega)).code) := by
        have := hq 0 (l[0]'(by omega)) (List.getElem?_eq_getElem _) 0 _ rfl
        simpa [Addr.add] using this
      obtain ⟨b, o, spot⟩ := a
      have hspot : spot = none := by
        have := World.cell?_spot z0
        simpa using this
      subst hspot
      refine ⟨b, o, rfl, ?_, ?_, ?_, ?_, ?_⟩
      · by_cases hi0 : i = 0
        · subst hi0
          simpa [Addr.add] using q0
        · have : i * 5 ≠ 0 := by omega
          simpa [Addr.add, Nat.add_assoc, this] using q0
      · simpa [Addr.add, Nat.add_assoc] using q1
      · simpa [Addr.add, Nat.add_assoc] using q2
      · simpa [Addr.add, Nat.add_assoc] using q3
      · simpa [Addr.add, Nat.add_assoc] using q4
    · rw [hll]
      simp only [Prod.mk.injEq] at hx
      have hd := hx.1
      subst hd
      have := hz ((len + (m - len)) * Tryz.prog.bytesOf 114) (by simp [DataW.weights, Tryz.underlying59])
      rw [Tryz.bytesPart] at this
      simp [reachBytes] at this
      omega
end Go.Proofs.YtcpllhjhnfmepaaGreatDoor

/- the reader of encode: number, signed, small, take, one. -/
namespace Go.Proofs.YtcpllhjhnfmepaaGreatDoor
set_option linter.all false
set_option linter.unusedSimpArgs false
set_option linter.unusedVariables false
open Go.RowKit
open Go.Lib (uvarint zigzag)
def rNumF : Nat → Nat → List UInt8 → Option (Nat × List UInt8)
  | _, _, [] => none
  | i, u, c :: l => if i = 10 then none else if c.toNat < 128 then some ((u + c.toNat % 128 * 2 ^ (7 * i)) % 18446744073709551616, l) else rNumF (i + 1) ((u + c.toNat % 128 * 2 ^ (7 * i)) % 18446744073709551616) l
/-- what is left to read, and whether it is bad -/
abbrev RSt := List UInt8 × Bool
def rNumber (st : RSt) : Nat × RSt := match rNumF 0 0 st.1 with
  | some (u, l) => (u, (l, st.2))
  | none => (0, (st.1, true))
theorem ext_list (s : ByteArray) (a b : Nat) : (s.extract a b).data.toList = (s.data.toList.drop a).take (b - a) := by
  simp [ByteArray.data_extract, List.extract]
theorem ext_drop (s : ByteArray) (a : Nat) : (s.extract a s.size).data.toList = s.data.toList.drop a := by
  rw [ext_list, List.take_of_length_le]
  rw [List.length_drop]
  exact Nat.le_refl _
theorem bytes_drop (s : ByteArray) (k : Nat) (h : k < s.size) : s.data.toList.drop k = s[k] :: s.data.toList.drop (k + 1) := by
  rw [List.drop_eq_getElem_cons (by exact h)]
  rfl
theorem or_step (c : UInt8) (uk k : Nat) (hk : k < 10) (hu : uk < 2 ^ (7 * k)) :
    bits .or .u64 (uk : Int) (IntKind.u64.wrap (IntKind.u64.wrap (bits .and .u8 (c.toNat : Int) 127) * 2 ^ (7 * k))) = (((uk + c.toNat % 128 * 2 ^ (7 * k)) % 18446744073709551616 : Nat) : Int) := by
  have hc := c.toNat_lt
  have e1 : bits .and .u8 (c.toNat : Int) 127 = (c.toNat : Int) % 128 := u8_and127 _ (by omega) (by omega)
  rw [e1, IntKind.wrap_u64, IntKind.wrap_u64]
  generalize c.toNat = d at *
  have h0 : (d : Int) % 128 % 18446744073709551616 = (d : Int) % 128 := by omega
  rw [h0]
  rcases (by omega : k = 0 ∨ k = 1 ∨ k = 2 ∨ k = 3 ∨ k = 4 ∨ k = 5 ∨ k = 6 ∨ k = 7 ∨ k = 8 ∨ k = 9) with rfl | rfl | rfl | rfl | rfl | rfl | rfl | rfl | rfl | rfl <;> simp only [Nat.reduceMul, Nat.reducePow, Int.reducePow] at hu ⊢
  · rw [u64_orv0 _ _ (by omega) (by omega) (by omega) (by omega) (by omega)]; omega
  · rw [u64_orv7 _ _ (by omega) (by omega) (by omega) (by omega) (by omega)]; omega
  · rw [u64_orv14 _ _ (by omega) (by omega) (by omega) (by omega) (by omega)]; omega
  · rw [u64_orv21 _ _ (by omega) (by omega) (by omega) (by omega) (by omega)]; omega
  · rw [u64_orv28 _ _ (by omega) (by omega) (by omega) (by omega) (by omega)]; omega
  · rw [u64_orv35 _ _ (by omega) (by omega) (by omega) (by omega) (by omega)]; omega
  · rw [u64_orv42 _ _ (by omega) (by omega) (by omega) (by omega) (by omega)]; omega
  · rw [u64_orv49 _ _ (by omega) (by omega) (by omega) (by omega) (by omega)]; omega
  · rw [u64_orv56 _ _ (by omega) (by omega) (by omega) (by omega) (by omega)]; omega
  · rw [u64_orv63 _ _ (by omega) (by omega) (by omega) (by omega) (by omega)]; omega
theorem or_next (d uk k : Nat) (hu : uk < 2 ^ (7 * k)) : (uk + d % 128 * 2 ^ (7 * k)) % 18446744073709551616 < 2 ^ (7 * (k + 1)) := by
  have h1 : 2 ^ (7 * (k + 1)) = 128 * 2 ^ (7 * k) := by rw [Nat.mul_add, Nat.pow_add, Nat.mul_comm]
  have h2 : d % 128 * 2 ^ (7 * k) ≤ 127 * 2 ^ (7 * k) := Nat.mul_le_mul_right _ (by omega)
  have h3 := Nat.mod_le (uk + d % 128 * 2 ^ (7 * k)) 18446744073709551616
  rw [h1]
  omega
/-- the reader at the head has read on: it hands back v -/
def RRes (B : Nat) (w0 : World) (L : List Item) (g : Nat) (v : Value) (st : RSt) (e : Ending) (w' : World) : Prop :=
  ∃ s : ByteArray, e = .returned v ∧ Hid (s.data.toList = st.1) ∧ Hp B w0 w' (.blk g [.string s, .bool st.2] 126 :: L)
set_option maxRecDepth 100000 in
set_option maxHeartbeats 8000000 in
theorem rnumber_any {B : Nat} {w0 w : World} {L : List Item} (g : Nat) (s : ByteArray) (b : Bool) (hl : s.size ≤ 100000) (hS : Hp B w0 w (.blk g [.string s, .bool b] 126 :: L)) :
    Calls Tryz.prog 84 #[.pointer (some ⟨g, 0, none⟩)] w (RRes B w0 L g (.int .u64 (rNumber (s.data.toList, b)).1) (rNumber (s.data.toList, b)).2) := by
  obtain ⟨m, hm⟩ : ∃ m, m = min s.size 10 := ⟨_, rfl⟩
  have hm1 : min (s.size : Int) 10 = m := by omega
  have Hm := Lib.hid hm
  have hm10 : m ≤ 10 := by omega
  have hmn : m ≤ s.size := by omega
  clear hm
  ((try clear hF); (first | have hF := And.intro hS.facts (hR.at hS.ext) | have hF := hS.facts); simp only [HFacts, cellFacts, RFacts, cellOnly, and_true, true_and, Nat.zero_add, Nat.reduceAdd] at hF)
  go_enter Tryz.func84, Tryz.ntmps84
  go_wp2_with (first | ((with_reducible first | refine nhLa ?_ | refine nhLs ?_ | refine nhLd ?_ | refine nhCa ?_ | refine nhCs ?_ | refine nhCd ?_ | refine nhPa ?_ | refine nhPs ?_ | refine nhPd ?_ | refine nhKa ?_ | refine nhKs ?_ | refine nhKd ?_); ((try clear hF); clear hS; intro wk hS; (try simp only [List.set_cons_zero, List.set_cons_succ, heap_size, heap_set_size] at hS); ((try clear hF); (first | have hF := And.intro hS.facts (hR.at hS.ext) | have hF := hS.facts); simp only [HFacts, cellFacts, RFacts, cellOnly, and_true, true_and, Nat.zero_add, Nat.reduceAdd] at hF))) | fail)
  clear hm1
  go_loopw [11, 3] (fun i u wr => ∃ (k uk : Nat), i = .int .i64 k ∧ k ≤ m ∧ u = .int .u64 uk ∧ uk < 2 ^ (7 * k) ∧ Hid (rNumF 0 0 s.data.toList = rNumF k uk (s.data.toList.drop k)) ∧ Hp B w0 wr (.blk g [.string s, .bool b] 126 :: L)) (fun i _ _ => m - (intOf i).toNat)
  case atStart => exact ⟨0, 0, rfl, Nat.zero_le _, rfl, by simp, Lib.hid rfl, hS⟩
  case round =>
    clear hS hF
    obtain ⟨k, uk, rfl, hk, rfl, huk, hf, hS⟩ := hrel
    have HUK := Lib.hid huk
    clear huk
    by_cases hlt : k < m
    · have hks : k < s.size := by omega
      have HU := Lib.hid (or_step s[k] uk k (by omega) HUK.out)
      have HU2 := Lib.hid (or_next s[k].toNat uk k HUK.out)
      have HD := Lib.hid (bytes_drop s k hks)
      have HED := Lib.hid (ext_drop s (k + 1))
      ((try clear hF); (first | have hF := And.intro hS.facts (hR.at hS.ext) | have hF := hS.facts); simp only [HFacts, cellFacts, RFacts, cellOnly, and_true, true_and, Nat.zero_add, Nat.reduceAdd] at hF)
      go_wp2_with (first | ((with_reducible first | refine nhLa ?_ | refine nhLs ?_ | refine nhLd ?_ | refine nhCa ?_ | refine nhCs ?_ | refine nhCd ?_ | refine nhPa ?_ | refine nhPs ?_ | refine nhPd ?_ | refine nhKa ?_ | refine nhKs ?_ | refine nhKd ?_); ((try clear hF); clear hS; intro wk hS; (try simp only [List.set_cons_zero, List.set_cons_succ, heap_size, heap_set_size] at hS); ((try clear hF); (first | have hF := And.intro hS.facts (hR.at hS.ext) | have hF := hS.facts); simp only [HFacts, cellFacts, RFacts, cellOnly, and_true, true_and, Nat.zero_add, Nat.reduceAdd] at hF))) | fail)
      · have hlt8 : s[k].toNat < 128 := by omega
        have e : rNumF 0 0 s.data.toList = some ((uk + s[k].toNat % 128 * 2 ^ (7 * k)) % 18446744073709551616, s.data.toList.drop (k + 1)) := by
          rw [hf.out, HD.out, rNumF, if_neg (by omega), if_pos hlt8]
        have e2 : rNumber (s.data.toList, b) = ((uk + s[k].toNat % 128 * 2 ^ (7 * k)) % 18446744073709551616, (s.data.toList.drop (k + 1), b)) := by unfold rNumber; simp only [e]
        rw [e2]
        go_ret
        exact ⟨s.extract (k + 1) s.size, by rw [← HU.out]; first | done | rfl, HED, hS⟩
      · go_roundw
        case rel =>
          refine ⟨k + 1, _, by go_num, by omega, by rw [HU.out], HU2.out, Lib.hid ?_, hS⟩
          rw [hf.out, HD.out, rNumF, if_neg (by omega), if_neg (by omega)]
        case measure => simp [intOf]; omega
    · obtain rfl : k = m := by omega
      have e : rNumF 0 0 s.data.toList = none := by
        rw [hf.out]
        have := Hm.out
        rcases Nat.lt_or_ge k s.size with h | h
        · rw [bytes_drop s k h, rNumF, if_pos (by omega)]
        · rw [List.drop_eq_nil_of_le (by rw [size_cast]; exact h)]; rfl
      have e2 : rNumber (s.data.toList, b) = (0, (s.data.toList, true)) := by unfold rNumber; simp only [e]
      have E2 := Lib.hid e2
      clear e e2
      ((try clear hF); (first | have hF := And.intro hS.facts (hR.at hS.ext) | have hF := hS.facts); simp only [HFacts, cellFacts, RFacts, cellOnly, and_true, true_and, Nat.zero_add, Nat.reduceAdd] at hF)
      go_wp2_with (first | ((with_reducible first | refine nhLa ?_ | refine nhLs ?_ | refine nhLd ?_ | refine nhCa ?_ | refine nhCs ?_ | refine nhCd ?_ | refine nhPa ?_ | refine nhPs ?_ | refine nhPd ?_ | refine nhKa ?_ | refine nhKs ?_ | refine nhKd ?_); ((try clear hF); clear hS; intro wk hS; (try simp only [List.set_cons_zero, List.set_cons_succ, heap_size, heap_set_size] at hS); ((try clear hF); (first | have hF := And.intro hS.facts (hR.at hS.ext) | have hF := hS.facts); simp only [HFacts, cellFacts, RFacts, cellOnly, and_true, true_and, Nat.zero_add, Nat.reduceAdd] at hF))) | fail)
      rw [E2.out]
      go_ret
      exact ⟨s, rfl, Lib.hid rfl, hS⟩
end Go.Proofs.YtcpllhjhnfmepaaGreatDoor

/- the reader of encode: signed. -/
namespace Go.Proofs.YtcpllhjhnfmepaaGreatDoor
set_option linter.all false
set_option linter.unusedSimpArgs false
set_option linter.unusedVariables false
open Go.RowKit
open Go.Lib (uvarint zigzag)
theorem rNumF_lt : ∀ (l : List UInt8) (i u : Nat) (r : Nat × List UInt8), rNumF i u l = some r → r.1 < 18446744073709551616 ∧ r.2.length < l.length
  | [], _, _, _, h => by cases h
  | c :: l, i, u, r, h => by
    unfold rNumF at h
    split at h
    · cases h
    · split at h
      · cases h; exact ⟨Nat.mod_lt _ (by decide), by simp⟩
      · have := rNumF_lt l _ _ r h
        exact ⟨this.1, by rw [List.length_cons]; omega⟩
theorem rNumber_lt (st : RSt) : (rNumber st).1 < 18446744073709551616 := by
  unfold rNumber
  split
  · rename_i u l h; exact (rNumF_lt _ _ _ _ h).1
  · exact (by decide : (0 : Nat) < 18446744073709551616)
theorem rNumber_len (st : RSt) : (rNumber st).2.1.length ≤ st.1.length := by
  unfold rNumber
  split
  · rename_i u l h; have := (rNumF_lt _ _ _ _ h).2; exact Nat.le_of_lt this
  · exact Nat.le_refl _
def unzig (u : Nat) : Int := if u % 2 = 0 then ((u / 2 : Nat) : Int) else -((u / 2 : Nat) : Int) - 1
def rSigned (st : RSt) : Int × RSt := (unzig (rNumber st).1, (rNumber st).2)
def rSmall (most : Nat) (st : RSt) : Nat × RSt := if most < (rNumber st).1 then (0, ((rNumber st).2.1, true)) else rNumber st
def rTake (n : Nat) (st : RSt) : List UInt8 × RSt := if st.1.length < n ∨ st.2 = true then ([], (st.1, true)) else (st.1.take n, (st.1.drop n, st.2))
def rOne (kind : Int) (st : RSt) : GV × RSt := if kind = 1 then (⟨1, (rSigned st).1, ⟨#[]⟩⟩, (rSigned st).2) else (⟨2, 0, ⟨(rTake (rSmall 40 st).1 (rSmall 40 st).2).1.toArray⟩⟩, (rTake (rSmall 40 st).1 (rSmall 40 st).2).2)
theorem xor_commi (a b : Int) : bits .xor .i64 a b = bits .xor .i64 b a := by
  show IntKind.i64.wrap ((BitVec.ofInt 64 a ^^^ BitVec.ofInt 64 b).toNat : Int) = IntKind.i64.wrap ((BitVec.ofInt 64 b ^^^ BitVec.ofInt 64 a).toNat : Int)
  rw [BitVec.xor_comm]
theorem xor_zeroi (a : Nat) (h : a < 9223372036854775808) : bits .xor .i64 (a : Int) 0 = a := by
  show IntKind.i64.wrap ((BitVec.ofInt 64 (a : Int) ^^^ BitVec.ofInt 64 0).toNat : Int) = _
  rw [show BitVec.ofInt 64 0 = 0#64 by rfl, BitVec.xor_zero, BitVec.ofInt_natCast, BitVec.toNat_ofNat, Nat.mod_eq_of_lt (by omega), IntKind.wrap_i64]
  omega
theorem unzig_even (u : Nat) (hu : u < 18446744073709551616) (h : u % 2 = 0) : bits .xor .i64 ((u : Int) / 2) 0 = unzig u := by
  unfold unzig
  rw [if_pos h, show (u : Int) / 2 = ((u / 2 : Nat) : Int) by omega, xor_zeroi _ (by omega)]
theorem unzig_odd (u : Nat) (hu : u < 18446744073709551616) (h : u % 2 = 1) : bits .xor .i64 ((u : Int) / 2) (-1) = unzig u := by
  unfold unzig
  rw [if_neg (by omega), show (u : Int) / 2 = ((u / 2 : Nat) : Int) by omega, xor_commi, Lib.i64_not _ (by omega)]
set_option maxRecDepth 100000 in
set_option maxHeartbeats 8000000 in
theorem rsigned_any {B : Nat} {w0 w : World} {L : List Item} (g : Nat) (s : ByteArray) (b : Bool) (hl : s.size ≤ 100000) (hS : Hp B w0 w (.blk g [.string s, .bool b] 126 :: L)) :
    Calls Tryz.prog 86 #[.pointer (some ⟨g, 0, none⟩)] w (RRes B w0 L g (.int .i64 (rSigned (s.data.toList, b)).1) (rSigned (s.data.toList, b)).2) := by
  have HN := Lib.hid (rnumber_any g s b hl hS)
  have hlt := rNumber_lt (s.data.toList, b)
  unfold rSigned
  obtain ⟨u, hu⟩ : ∃ u, (rNumber (s.data.toList, b)).1 = u := ⟨_, rfl⟩
  rw [hu] at HN hlt ⊢
  clear hu hS
  have a1 : bits .and .u64 (u : Int) 1 = (u : Int) % 2 := Lib.u64_and1 _ (by omega) (by omega)
  have w1 : IntKind.i64.wrap ((u : Int) / 2) = (u : Int) / 2 := by rw [IntKind.wrap_i64]; omega
  by_cases h2 : u % 2 = 0
  · have a2 : bits .and .u64 (u : Int) 1 = 0 := by rw [a1]; omega
    have HX := Lib.hid (unzig_even u hlt h2)
    clear a1 h2
    go_enter Tryz.func86, Tryz.ntmps86
    go_wp2_with (go_at_call 84; (with_reducible refine Calls.mono HN.out ?_); rintro e wk ⟨s', rfl, hs', hS⟩)
    rw [← HX.out]
    go_ret
    exact ⟨s', rfl, hs', hS⟩
  · have a2 : bits .and .u64 (u : Int) 1 = 1 := by rw [a1]; omega
    have HX := Lib.hid (unzig_odd u hlt (by omega))
    clear a1 h2
    go_enter Tryz.func86, Tryz.ntmps86
    go_wp2_with (go_at_call 84; (with_reducible refine Calls.mono HN.out ?_); rintro e wk ⟨s', rfl, hs', hS⟩)
    rw [← HX.out]
    go_ret
    exact ⟨s', rfl, hs', hS⟩
end Go.Proofs.YtcpllhjhnfmepaaGreatDoor

/- the reader of encode: small. -/
namespace Go.Proofs.YtcpllhjhnfmepaaGreatDoor
set_option linter.all false
set_option linter.unusedSimpArgs false
set_option linter.unusedVariables false
open Go.RowKit
open Go.Lib (uvarint zigzag)
set_option maxRecDepth 100000 in
set_option maxHeartbeats 8000000 in
theorem rsmall_any {B : Nat} {w0 w : World} {L : List Item} (g : Nat) (s : ByteArray) (b : Bool) (most : Nat) (hl : s.size ≤ 100000) (hm : most ≤ 1000000) (hS : Hp B w0 w (.blk g [.string s, .bool b] 126 :: L)) :
    Calls Tryz.prog 60 #[.pointer (some ⟨g, 0, none⟩), .int .i64 most] w (RRes B w0 L g (.int .i64 (rSmall most (s.data.toList, b)).1) (rSmall most (s.data.toList, b)).2) := by
  have HN := Lib.hid (rnumber_any g s b hl hS)
  have hlt := rNumber_lt (s.data.toList, b)
  obtain ⟨u, hu⟩ : ∃ u, (rNumber (s.data.toList, b)).1 = u := ⟨_, rfl⟩
  obtain ⟨st, hst⟩ : ∃ st, (rNumber (s.data.toList, b)).2 = st := ⟨_, rfl⟩
  rw [hst] at HN
  rw [hu] at HN hlt
  clear hS
  have w1 : IntKind.u64.wrap (most : Int) = most := by rw [IntKind.wrap_u64]; omega
  by_cases h2 : most < u
  · have e : rSmall most (s.data.toList, b) = (0, (st.1, true)) := by unfold rSmall; rw [hu, if_pos h2, hst]
    rw [e]
    clear hu hst e
    show Calls _ _ _ _ (RRes B w0 L g (.int .i64 0) (st.1, true))
    go_enter Tryz.func60, Tryz.ntmps60
    go_wp2_with (go_at_call 84; (with_reducible refine Calls.mono HN.out ?_); rintro e wk ⟨s', rfl, hs', hS⟩; have hF := hS.facts; simp only [HFacts, cellFacts, RFacts, cellOnly, and_true, true_and, Nat.zero_add, Nat.reduceAdd] at hF)
    ((with_reducible first | refine nhLa ?_ | refine nhLs ?_ | refine nhLd ?_ | refine nhCa ?_ | refine nhCs ?_ | refine nhCd ?_ | refine nhPa ?_ | refine nhPs ?_ | refine nhPd ?_ | refine nhKa ?_ | refine nhKs ?_ | refine nhKd ?_); ((try clear hF); clear hS; intro wk hS; (try simp only [List.set_cons_zero, List.set_cons_succ, heap_size, heap_set_size] at hS); ((try clear hF); (first | have hF := And.intro hS.facts (hR.at hS.ext) | have hF := hS.facts); simp only [HFacts, cellFacts, RFacts, cellOnly, and_true, true_and, Nat.zero_add, Nat.reduceAdd] at hF)))
    go_ret
    exact ⟨s', rfl, hs', hS⟩
  · have e : rSmall most (s.data.toList, b) = (u, st) := by unfold rSmall; rw [hu, if_neg h2, ← hst, ← hu]
    rw [e]
    clear hu hst e
    show Calls _ _ _ _ (RRes B w0 L g (.int .i64 (u : Int)) st)
    have w2 : IntKind.i64.wrap (u : Int) = u := by rw [IntKind.wrap_i64]; omega
    go_enter Tryz.func60, Tryz.ntmps60
    go_wp2_with (go_at_call 84; (with_reducible refine Calls.mono HN.out ?_); rintro e wk ⟨s', rfl, hs', hS⟩; have hF := hS.facts; simp only [HFacts, cellFacts, RFacts, cellOnly, and_true, true_and, Nat.zero_add, Nat.reduceAdd] at hF)
    go_ret
    exact ⟨s', rfl, hs', hS⟩
end Go.Proofs.YtcpllhjhnfmepaaGreatDoor

/- the reader of encode: take. -/
namespace Go.Proofs.YtcpllhjhnfmepaaGreatDoor
set_option linter.all false
set_option linter.unusedSimpArgs false
set_option linter.unusedVariables false
open Go.RowKit
open Go.Lib (uvarint zigzag)
/-- the reader at the head has read on: it hands back a text -/
def RResS (B : Nat) (w0 : World) (L : List Item) (g : Nat) (t : List UInt8) (st : RSt) (e : Ending) (w' : World) : Prop :=
  ∃ s t' : ByteArray, e = .returned (.string t') ∧ Hid (t'.data.toList = t) ∧ Hid (s.data.toList = st.1) ∧ Hp B w0 w' (.blk g [.string s, .bool st.2] 126 :: L)
theorem ext_take (s : ByteArray) (a : Nat) : (s.extract 0 a).data.toList = s.data.toList.take a := by
  rw [ext_list]; simp
set_option maxRecDepth 100000 in
set_option maxHeartbeats 8000000 in
theorem rtake_any {B : Nat} {w0 w : World} {L : List Item} (g : Nat) (s : ByteArray) (b : Bool) (n : Nat) (hl : s.size ≤ 100000) (hm : n ≤ 1000000) (hS : Hp B w0 w (.blk g [.string s, .bool b] 126 :: L)) :
    Calls Tryz.prog 61 #[.pointer (some ⟨g, 0, none⟩), .int .i64 n] w (RResS B w0 L g (rTake n (s.data.toList, b)).1 (rTake n (s.data.toList, b)).2) := by
  have hsz : s.data.toList.length = s.size := rfl
  by_cases h : s.size < n ∨ b = true
  · have e : rTake n (s.data.toList, b) = ([], (s.data.toList, true)) := by unfold rTake; rw [if_pos (by simpa [hsz] using h)]
    rw [e]
    clear e hsz
    by_cases h1 : s.size < n
    · clear h
      ((try clear hF); (first | have hF := And.intro hS.facts (hR.at hS.ext) | have hF := hS.facts); simp only [HFacts, cellFacts, RFacts, cellOnly, and_true, true_and, Nat.zero_add, Nat.reduceAdd] at hF)
      go_enter Tryz.func61, Tryz.ntmps61
      go_wp2_with (first | ((with_reducible first | refine nhLa ?_ | refine nhLs ?_ | refine nhLd ?_ | refine nhCa ?_ | refine nhCs ?_ | refine nhCd ?_ | refine nhPa ?_ | refine nhPs ?_ | refine nhPd ?_ | refine nhKa ?_ | refine nhKs ?_ | refine nhKd ?_); ((try clear hF); clear hS; intro wk hS; (try simp only [List.set_cons_zero, List.set_cons_succ, heap_size, heap_set_size] at hS); ((try clear hF); (first | have hF := And.intro hS.facts (hR.at hS.ext) | have hF := hS.facts); simp only [HFacts, cellFacts, RFacts, cellOnly, and_true, true_and, Nat.zero_add, Nat.reduceAdd] at hF))) | fail)
      go_ret
      exact ⟨s, ⟨#[]⟩, rfl, Lib.hid rfl, Lib.hid rfl, hS⟩
    · obtain rfl : b = true := by simpa [h1] using h
      clear h
      ((try clear hF); (first | have hF := And.intro hS.facts (hR.at hS.ext) | have hF := hS.facts); simp only [HFacts, cellFacts, RFacts, cellOnly, and_true, true_and, Nat.zero_add, Nat.reduceAdd] at hF)
      go_enter Tryz.func61, Tryz.ntmps61
      go_wp2_with (first | ((with_reducible first | refine nhLa ?_ | refine nhLs ?_ | refine nhLd ?_ | refine nhCa ?_ | refine nhCs ?_ | refine nhCd ?_ | refine nhPa ?_ | refine nhPs ?_ | refine nhPd ?_ | refine nhKa ?_ | refine nhKs ?_ | refine nhKd ?_); ((try clear hF); clear hS; intro wk hS; (try simp only [List.set_cons_zero, List.set_cons_succ, heap_size, heap_set_size] at hS); ((try clear hF); (first | have hF := And.intro hS.facts (hR.at hS.ext) | have hF := hS.facts); simp only [HFacts, cellFacts, RFacts, cellOnly, and_true, true_and, Nat.zero_add, Nat.reduceAdd] at hF))) | fail)
      go_ret
      exact ⟨s, ⟨#[]⟩, rfl, Lib.hid rfl, Lib.hid rfl, hS⟩
  · have h1 : n ≤ s.size := by omega
    obtain rfl : b = false := by cases b <;> simp_all
    have e : rTake n (s.data.toList, false) = (s.data.toList.take n, (s.data.toList.drop n, false)) := by unfold rTake; rw [if_neg (by simpa [hsz] using h)]
    rw [e]
    clear e hsz h
    have HE1 := Lib.hid (ext_take s n)
    have HE2 := Lib.hid (ext_drop s n)
    ((try clear hF); (first | have hF := And.intro hS.facts (hR.at hS.ext) | have hF := hS.facts); simp only [HFacts, cellFacts, RFacts, cellOnly, and_true, true_and, Nat.zero_add, Nat.reduceAdd] at hF)
    go_enter Tryz.func61, Tryz.ntmps61
    go_wp2_with (first | ((with_reducible first | refine nhLa ?_ | refine nhLs ?_ | refine nhLd ?_ | refine nhCa ?_ | refine nhCs ?_ | refine nhCd ?_ | refine nhPa ?_ | refine nhPs ?_ | refine nhPd ?_ | refine nhKa ?_ | refine nhKs ?_ | refine nhKd ?_); ((try clear hF); clear hS; intro wk hS; (try simp only [List.set_cons_zero, List.set_cons_succ, heap_size, heap_set_size] at hS); ((try clear hF); (first | have hF := And.intro hS.facts (hR.at hS.ext) | have hF := hS.facts); simp only [HFacts, cellFacts, RFacts, cellOnly, and_true, true_and, Nat.zero_add, Nat.reduceAdd] at hF))) | fail)
    go_ret
    exact ⟨s.extract n s.size, s.extract 0 n, rfl, HE1, HE2, hS⟩
theorem rSmall_len (m : Nat) (st : RSt) : (rSmall m st).2.1.length ≤ st.1.length := by
  unfold rSmall
  split
  · exact rNumber_len st
  · exact rNumber_len st
theorem rSmall_le (m : Nat) (st : RSt) : (rSmall m st).1 ≤ m := by
  unfold rSmall
  split
  · exact Nat.zero_le _
  · omega
/-- the reader at the head has read on: it hands back a value -/
def RResV (B : Nat) (w0 : World) (L : List Item) (g : Nat) (v : GV) (st : RSt) (e : Ending) (w' : World) : Prop :=
  ∃ (s : ByteArray) (x : GV), e = .returned (.agg #[.int .i64 x.kind, .int .i64 x.num, .string x.text]) ∧ Hid (x = v) ∧ Hid (s.data.toList = st.1) ∧ Hp B w0 w' (.blk g [.string s, .bool st.2] 126 :: L)
set_option maxRecDepth 100000 in
set_option maxHeartbeats 8000000 in
theorem rone_int {B : Nat} {w0 w : World} {L : List Item} (g : Nat) (s : ByteArray) (b : Bool) (hl : s.size ≤ 100000) (hS : Hp B w0 w (.blk g [.string s, .bool b] 126 :: L)) :
    Calls Tryz.prog 85 #[.pointer (some ⟨g, 0, none⟩), .int .i64 1] w (RResV B w0 L g ⟨1, (rSigned (s.data.toList, b)).1, ⟨#[]⟩⟩ (rSigned (s.data.toList, b)).2) := by
  have HN := Lib.hid (fun (W : World) (L : List Item) hS => rsigned_any (w0 := w0) (w := W) (B := B) (L := L) g s b hl hS)
  obtain ⟨v, hv⟩ : ∃ v, (rSigned (s.data.toList, b)).1 = v := ⟨_, rfl⟩
  obtain ⟨st, hst⟩ : ∃ st, (rSigned (s.data.toList, b)).2 = st := ⟨_, rfl⟩
  rw [hst, hv] at HN
  rw [hst, hv]
  clear hst hv
  ((try clear hF); (first | have hF := And.intro hS.facts (hR.at hS.ext) | have hF := hS.facts); simp only [HFacts, cellFacts, RFacts, cellOnly, and_true, true_and, Nat.zero_add, Nat.reduceAdd] at hF)
  go_enter Tryz.func85, Tryz.ntmps85
  go_wp2_with (first | ((with_reducible first | refine nhLa ?_ | refine nhLs ?_ | refine nhLd ?_ | refine nhCa ?_ | refine nhCs ?_ | refine nhCd ?_ | refine nhPa ?_ | refine nhPs ?_ | refine nhPd ?_ | refine nhKa ?_ | refine nhKs ?_ | refine nhKd ?_); ((try clear hF); clear hS; intro wk hS; (try simp only [List.set_cons_zero, List.set_cons_succ, heap_size, heap_set_size] at hS); ((try clear hF); (first | have hF := And.intro hS.facts (hR.at hS.ext) | have hF := hS.facts); simp only [HFacts, cellFacts, RFacts, cellOnly, and_true, true_and, Nat.zero_add, Nat.reduceAdd] at hF))) | (go_at_call 86; (with_reducible refine Calls.mono (HN.out _ _ (hS.front 1 rfl)) ?_); clear hS; rintro e wk ⟨s', rfl, hs', hS⟩; (try simp only [List.eraseIdx_cons_zero, List.eraseIdx_cons_succ, List.set_cons_zero, List.set_cons_succ] at hS); ((try clear hF); (first | have hF := And.intro hS.facts (hR.at hS.ext) | have hF := hS.facts); simp only [HFacts, cellFacts, RFacts, cellOnly, and_true, true_and, Nat.zero_add, Nat.reduceAdd] at hF)))
  refine bodyPost_ret (v := .agg #[.int .i64 1, .int .i64 v, .string ⟨#[]⟩]) (by simp [results, Tryz.results85, go_sem, hF]) rfl ⟨s', ⟨1, v, ⟨#[]⟩⟩, rfl, Lib.hid rfl, hs', hS.sub (by simp)⟩
set_option maxRecDepth 100000 in
set_option maxHeartbeats 8000000 in
theorem rone_text {B : Nat} {w0 w : World} {L : List Item} (g : Nat) (s : ByteArray) (b : Bool) (kind : Int) (hk : kind ≠ 1) (hl : s.size ≤ 100000) (hS : Hp B w0 w (.blk g [.string s, .bool b] 126 :: L)) :
    Calls Tryz.prog 85 #[.pointer (some ⟨g, 0, none⟩), .int .i64 kind] w (RResV B w0 L g ⟨2, 0, ⟨(rTake (rSmall 40 (s.data.toList, b)).1 (rSmall 40 (s.data.toList, b)).2).1.toArray⟩⟩ (rTake (rSmall 40 (s.data.toList, b)).1 (rSmall 40 (s.data.toList, b)).2).2) := by
  have hkb : (kind == 1) = false := by simp [hk]
  clear hk
  have HN := Lib.hid (fun (W : World) (L : List Item) hS => rsmall_any (w0 := w0) (w := W) (B := B) (L := L) g s b 40 hl (by decide) hS)
  have hl1 := rSmall_len 40 (s.data.toList, b)
  have hl2 := rSmall_le 40 (s.data.toList, b)
  simp only [size_cast] at hl1
  obtain ⟨q, hq⟩ : ∃ q, rSmall 40 (s.data.toList, b) = q := ⟨_, rfl⟩
  rw [hq] at HN hl1 hl2
  rw [hq]
  clear hq
  obtain ⟨k, st⟩ := q
  have HM := Lib.hid (fun (W : World) (s' : ByteArray) (L : List Item) (h : s'.data.toList = st.1) hS => rtake_any (w0 := w0) (w := W) (B := B) (L := L) g s' st.2 k (by have := congrArg List.length h; rw [size_cast] at this; simp only at hl1; omega) (by simp only at hl2; omega) hS)
  have HT := Lib.hid (fun (s' : ByteArray) (h : s'.data.toList = st.1) => show rTake k (s'.data.toList, st.2) = rTake k st by rw [h])
  show Calls _ _ _ _ (RResV B w0 L g ⟨2, 0, ⟨(rTake k st).1.toArray⟩⟩ (rTake k st).2)
  have HN2 := Lib.hid (show ∀ (W : World) (L : List Item), Hp B w0 W (.blk g [.string s, .bool b] 126 :: L) → Calls Tryz.prog 60 #[.pointer (some ⟨g, 0, none⟩), .int .i64 40] W (RRes B w0 L g (.int .i64 (k : Int)) st) from HN.out)
  clear HN hl1 hl2
  ((try clear hF); (first | have hF := And.intro hS.facts (hR.at hS.ext) | have hF := hS.facts); simp only [HFacts, cellFacts, RFacts, cellOnly, and_true, true_and, Nat.zero_add, Nat.reduceAdd] at hF)
  go_enter Tryz.func85, Tryz.ntmps85
  go_wp2_with (first | ((with_reducible first | refine nhLa ?_ | refine nhLs ?_ | refine nhLd ?_ | refine nhCa ?_ | refine nhCs ?_ | refine nhCd ?_ | refine nhPa ?_ | refine nhPs ?_ | refine nhPd ?_ | refine nhKa ?_ | refine nhKs ?_ | refine nhKd ?_); ((try clear hF); clear hS; intro wk hS; (try simp only [List.set_cons_zero, List.set_cons_succ, heap_size, heap_set_size] at hS); ((try clear hF); (first | have hF := And.intro hS.facts (hR.at hS.ext) | have hF := hS.facts); simp only [HFacts, cellFacts, RFacts, cellOnly, and_true, true_and, Nat.zero_add, Nat.reduceAdd] at hF))) | (go_at_call 60; (with_reducible refine Calls.mono (HN2.out _ _ (hS.front 1 rfl)) ?_); clear hS; rintro e wk ⟨s', rfl, hs', hS⟩; (try simp only [List.eraseIdx_cons_zero, List.eraseIdx_cons_succ, List.set_cons_zero, List.set_cons_succ] at hS); ((try clear hF); (first | have hF := And.intro hS.facts (hR.at hS.ext) | have hF := hS.facts); simp only [HFacts, cellFacts, RFacts, cellOnly, and_true, true_and, Nat.zero_add, Nat.reduceAdd] at hF)) | (go_at_call 61; (with_reducible refine Calls.mono (HM.out _ s' _ hs'.out (hS.front 0 rfl)) ?_); clear hS; rintro e wk ⟨s2, t', rfl, ht', hs2, hS⟩; (try simp only [List.eraseIdx_cons_zero, List.eraseIdx_cons_succ, List.set_cons_zero, List.set_cons_succ] at hS); ((try clear hF); (first | have hF := And.intro hS.facts (hR.at hS.ext) | have hF := hS.facts); simp only [HFacts, cellFacts, RFacts, cellOnly, and_true, true_and, Nat.zero_add, Nat.reduceAdd] at hF)))
  have ht2 : t' = ⟨(rTake k st).1.toArray⟩ := by
    apply ByteArray.ext
    apply Array.toList_inj.1
    rw [ht'.out, HT.out s' hs'.out]
  rw [HT.out s' hs'.out] at hs2 hS
  refine bodyPost_ret (v := .agg #[.int .i64 2, .int .i64 0, .string t']) (by simp [results, Tryz.results85, go_sem, hF]) rfl ⟨s2, ⟨2, 0, t'⟩, rfl, Lib.hid (by rw [ht2]), hs2, hS.sub (by simp)⟩
theorem rone_any {B : Nat} {w0 w : World} {L : List Item} (g : Nat) (s : ByteArray) (b : Bool) (kind : Int) (hl : s.size ≤ 100000) (hS : Hp B w0 w (.blk g [.string s, .bool b] 126 :: L)) :
    Calls Tryz.prog 85 #[.pointer (some ⟨g, 0, none⟩), .int .i64 kind] w (RResV B w0 L g (rOne kind (s.data.toList, b)).1 (rOne kind (s.data.toList, b)).2) := by
  unfold rOne
  by_cases hk : kind = 1
  · subst hk
    rw [if_pos rfl]
    exact rone_int g s b hl hS
  · rw [if_neg hk]
    exact rone_text g s b kind hk hl hS
theorem rTake_len (m : Nat) (st : RSt) : (rTake m st).2.1.length ≤ st.1.length := by
  unfold rTake
  split <;> simp
theorem rOne_len (kind : Int) (st : RSt) : (rOne kind st).2.1.length ≤ st.1.length := by
  unfold rOne rSigned
  split
  · exact rNumber_len st
  · exact Nat.le_trans (rTake_len _ _) (rSmall_len _ _)
end Go.Proofs.YtcpllhjhnfmepaaGreatDoor

/- columns keep their numbers: the plain law of SchemaNumbers. -/
namespace Go.Proofs.YtcpllhjhnfmepaaGreatDoor
set_option linter.all false
set_option linter.unusedSimpArgs false
set_option linter.unusedVariables false
open Go.RowKit
/-- columns that may be a table's, by next -/
structure Inv (l : List CG) (next : Int) : Prop where
  len1 : 1 ≤ l.length
  len8 : l.length ≤ 8
  ok : ∀ c ∈ l, colB c = true
  idlt : ∀ c ∈ l, c.id < next
  apart : ∀ (i j : Nat) (ci cj : CG), i < j → l[i]? = some ci → l[j]? = some cj → clashC cj ci = false
theorem idxC_first (p : CG → Bool) : ∀ (l : List CG) (j k : Nat) (c : CG), l[k]? = some c → p c = true → (∀ i x, i < k → l[i]? = some x → p x = false) → idxC p j l = ((j + k : Nat) : Int)
  | [], _, _, _, h, _, _ => by cases h
  | x :: l, j, 0, c, h, hp, _ => by
    simp at h; subst h
    rw [idxC, if_pos hp, Nat.add_zero]
  | x :: l, j, k + 1, c, h, hp, hn => by
    rw [idxC, if_neg (by rw [hn 0 x (by omega) rfl]; decide), idxC_first p l (j + 1) k c (by simpa using h) hp (fun i y hi hy => hn (i + 1) y (by omega) (by simpa using hy))]
    congr 1; omega
theorem idxC_some (p : CG → Bool) : ∀ (l : List CG) (j : Nat), 0 ≤ idxC p j l → ∃ k c, idxC p j l = ((j + k : Nat) : Int) ∧ l[k]? = some c ∧ p c = true ∧ ∀ i x, i < k → l[i]? = some x → p x = false
  | [], j, h => by simp [idxC] at h
  | x :: l, j, h => by
    unfold idxC at h ⊢
    split
    · rename_i hp
      exact ⟨0, x, by simp, rfl, hp, fun i y hi => by omega⟩
    · rename_i hp
      rw [if_neg hp] at h
      obtain ⟨k, c, h1, h2, h3, h4⟩ := idxC_some p l (j + 1) h
      refine ⟨k + 1, c, by rw [h1]; congr 1; omega, by simpa using h2, h3, fun i y hi hy => ?_⟩
      cases i with
      | zero => simp at hy; subst hy; simpa using hp
      | succ i => exact h4 i y (by omega) (by simpa using hy)
end Go.Proofs.YtcpllhjhnfmepaaGreatDoor

/- What is known of values, plainly: who is passed by had nothing; two parts are the whole. No program. -/
namespace Go.Proofs.YtcpllhjhnfmepaaGreatDoor
set_option linter.all false

/-- what is known of values -/
structure ST where
  count : Int
  nulls : Int
  mn : GV
  mx : GV
def stepS (s : ST) (v : GV) : ST :=
  if v.kind = 0 then { s with nulls := s.nulls + 1 }
  else { s with mn := if s.mn.kind = 0 ∨ cmpG v s.mn < 0 then v else s.mn, mx := if s.mx.kind = 0 ∨ 0 < cmpG v s.mx then v else s.mx }
def ofS (l : List GV) : ST := l.foldl stepS ⟨l.length, 0, zeroV, zeroV⟩
def isG (c : Int) (x y : GV) : Int := isV c x.kind x.num x.text y.kind y.num y.text
def oneS (c : Int) (s : ST) (v : GV) : Bool :=
  if c = 7 then decide (0 < s.nulls) else if c = 8 then decide (s.nulls < s.count)
  else if c = 1 then decide (isG 4 s.mn v = 1) && decide (isG 6 s.mx v = 1)
  else if c = 2 then decide (isG 2 s.mn v = 1) || decide (isG 2 s.mx v = 1)
  else if c = 3 ∨ c = 4 then decide (isG c s.mn v = 1) else decide (isG c s.mx v = 1)
def oppI (c : Int) : Int := if c = 1 then 2 else if c = 2 then 1 else if c = 3 then 6 else if c = 4 then 5 else if c = 5 then 4 else if c = 6 then 3 else if c = 7 then 8 else if c = 8 then 7 else 0
def mayS (get : ByteArray → ST) : Bool → CT → Bool
  | n, .nil => !n
  | n, .node c col x l r =>
    if c = 11 then mayS get (!n) l
    else if c = 9 ∨ c = 10 then (if decide (c = 9) != n then mayS get n l && mayS get n r else mayS get n l || mayS get n r)
    else oneS (if n then oppI c else c) (get col) x

/-- what is known of a list, told by its members -/
structure KnowS (l : List GV) (s : ST) : Prop where
  count : s.count = l.length
  nulls : s.nulls = (l.filter fun v => decide (v.kind = 0)).length
  mn : (∀ v ∈ l, v.kind = 0) ∧ s.mn = zeroV ∨ s.mn ∈ l ∧ s.mn.kind ≠ 0 ∧ ∀ v ∈ l, v.kind ≠ 0 → cmpG s.mn v ≤ 0
  mx : (∀ v ∈ l, v.kind = 0) ∧ s.mx = zeroV ∨ s.mx ∈ l ∧ s.mx.kind ≠ 0 ∧ ∀ v ∈ l, v.kind ≠ 0 → cmpG v s.mx ≤ 0

theorem le_trans' {a b c : GV} (h1 : cmpG a b ≤ 0) (h2 : cmpG b c ≤ 0) : cmpG a c ≤ 0 := by
  have r1 := cmpG_range a b
  have r2 := cmpG_range b c
  rcases r1 with r1 | r1 | r1
  · rcases r2 with r2 | r2 | r2
    · rw [cmpG_trans a b c (by omega)]; omega
    · have := (cmpG_zero b c).1 r2
      rw [← this]; omega
    · omega
  · rw [cmpG_left a b c r1]; exact h2
  · omega
theorem lt_of_le_of_lt' {a b c : GV} (h1 : cmpG a b ≤ 0) (h2 : cmpG b c < 0) : cmpG a c < 0 := by
  have h := le_trans' h1 (Int.le_of_lt h2)
  by_cases e : cmpG a c = 0
  · rw [(cmpG_zero a c).1 e] at h1
    have := cmpG_anti b c
    omega
  · omega
theorem cmpG_self (a : GV) : cmpG a a = 0 := (cmpG_zero a a).2 rfl

theorem know_step {l : List GV} {s : ST} {v : GV} (h : KnowS l { s with count := l.length }) : KnowS (l ++ [v]) { stepS s v with count := (l ++ [v]).length } := by
  by_cases k0 : v.kind = 0
  · refine ⟨rfl, ?_, ?_, ?_⟩
    · have := h.nulls
      simp only at this
      simp [stepS, k0, this]
    · rcases h.mn with ⟨a, b⟩ | ⟨a, b, c⟩
      · left
        refine ⟨fun x hx => ?_, by simpa [stepS, k0] using b⟩
        rcases List.mem_append.1 hx with hx | hx
        · exact a x hx
        · rw [List.mem_singleton.1 hx]; exact k0
      · right
        simp only [stepS, k0, if_true]
        refine ⟨List.mem_append_left _ a, b, fun x hx hk => ?_⟩
        rcases List.mem_append.1 hx with hx | hx
        · exact c x hx hk
        · rw [List.mem_singleton.1 hx] at hk; exact absurd k0 hk
    · rcases h.mx with ⟨a, b⟩ | ⟨a, b, c⟩
      · left
        refine ⟨fun x hx => ?_, by simpa [stepS, k0] using b⟩
        rcases List.mem_append.1 hx with hx | hx
        · exact a x hx
        · rw [List.mem_singleton.1 hx]; exact k0
      · right
        simp only [stepS, k0, if_true]
        refine ⟨List.mem_append_left _ a, b, fun x hx hk => ?_⟩
        rcases List.mem_append.1 hx with hx | hx
        · exact c x hx hk
        · rw [List.mem_singleton.1 hx] at hk; exact absurd k0 hk
  · refine ⟨rfl, ?_, ?_, ?_⟩
    · have := h.nulls
      simp only at this
      simp [stepS, k0, this]
    · right
      simp only [stepS, k0, if_false]
      by_cases hc : s.mn.kind = 0 ∨ cmpG v s.mn < 0
      · rw [if_pos hc]
        refine ⟨by simp, k0, fun x hx hk => ?_⟩
        rcases List.mem_append.1 hx with hx | hx
        · rcases h.mn with ⟨a, b⟩ | ⟨a, b, c⟩
          · exact absurd (a x hx) hk
          · have hc' : cmpG v s.mn < 0 := hc.resolve_left b
            exact le_trans' (Int.le_of_lt hc') (c x hx hk)
        · rw [List.mem_singleton.1 hx, cmpG_self]; omega
      · rw [if_neg hc]
        obtain ⟨n1, n2⟩ := not_or.1 hc
        rcases h.mn with ⟨a, b⟩ | ⟨a, b, c⟩
        · simp only at b; rw [b] at n1; exact absurd rfl n1
        · refine ⟨List.mem_append_left _ a, b, fun x hx hk => ?_⟩
          rcases List.mem_append.1 hx with hx | hx
          · exact c x hx hk
          · rw [List.mem_singleton.1 hx]
            have := cmpG_anti s.mn v
            omega
    · right
      simp only [stepS, k0, if_false]
      by_cases hc : s.mx.kind = 0 ∨ 0 < cmpG v s.mx
      · rw [if_pos hc]
        refine ⟨by simp, k0, fun x hx hk => ?_⟩
        rcases List.mem_append.1 hx with hx | hx
        · rcases h.mx with ⟨a, b⟩ | ⟨a, b, c⟩
          · exact absurd (a x hx) hk
          · have hc' : 0 < cmpG v s.mx := hc.resolve_left b
            have := cmpG_anti s.mx v
            have h3 : cmpG s.mx v ≤ 0 := by omega
            exact le_trans' (c x hx hk) h3
        · rw [List.mem_singleton.1 hx, cmpG_self]; omega
      · rw [if_neg hc]
        obtain ⟨n1, n2⟩ := not_or.1 hc
        rcases h.mx with ⟨a, b⟩ | ⟨a, b, c⟩
        · simp only at b; rw [b] at n1; exact absurd rfl n1
        · refine ⟨List.mem_append_left _ a, b, fun x hx hk => ?_⟩
          rcases List.mem_append.1 hx with hx | hx
          · exact c x hx hk
          · rw [List.mem_singleton.1 hx]; omega
theorem know_fold : ∀ (m l : List GV) (s : ST), KnowS l { s with count := l.length } → KnowS (l ++ m) { m.foldl stepS s with count := (l ++ m).length }
  | [], l, s, h => by simpa using h
  | v :: m, l, s, h => by
    have := know_fold m (l ++ [v]) (stepS s v) (know_step h)
    simpa using this
theorem fold_count : ∀ (m : List GV) (s : ST), (m.foldl stepS s).count = s.count
  | [], _ => rfl
  | v :: m, s => by rw [List.foldl_cons, fold_count m]; unfold stepS; split <;> rfl
theorem know_of (l : List GV) : KnowS l (ofS l) := by
  have h := know_fold l [] ⟨l.length, 0, zeroV, zeroV⟩ ⟨rfl, rfl, .inl ⟨(fun v hv => by cases hv), rfl⟩, .inl ⟨(fun v hv => by cases hv), rfl⟩⟩
  have hc : ({ l.foldl stepS ⟨l.length, 0, zeroV, zeroV⟩ with count := (([] : List GV) ++ l).length } : ST) = ofS l := by
    have := fold_count l ⟨l.length, 0, zeroV, zeroV⟩
    unfold ofS
    generalize l.foldl stepS ⟨l.length, 0, zeroV, zeroV⟩ = z at *
    cases z; simp_all
  rw [hc] at h
  simpa using h
/-- all that is not nothing is of one kind -/
def Alone (l : List GV) : Prop := ∀ x ∈ l, ∀ y ∈ l, x.kind ≠ 0 → y.kind ≠ 0 → x.kind = y.kind
theorem isG_one {c : Int} {x v : GV} : isG c x v = 1 ↔ x.kind ≠ 0 ∧ x.kind = v.kind ∧ isCode c (cmpG x v) = 1 := by
  unfold isG isV
  by_cases h : x.kind = 0 ∨ x.kind ≠ v.kind
  · rw [if_pos h]
    constructor
    · intro h; omega
    · rintro ⟨a, b, _⟩; exact absurd h (by rintro (h | h); exact a h; exact h b)
  · rw [if_neg h]
    obtain ⟨h1, h2⟩ := not_or.1 h
    exact ⟨fun e => ⟨h1, Decidable.not_not.1 h2, e⟩, fun e => e.2.2⟩
/-- a row of which nothing may be so is not so -/
theorem one_sound {l : List GV} {s : ST} (hs : KnowS l s) (ha : Alone l) {c : Int} (hc : 1 ≤ c ∧ c ≤ 8) {v x : GV} (hx : x ∈ l) (h : oneS c s v = false) :
    (c = 7 → x.kind ≠ 0) ∧ (c = 8 → x.kind = 0) ∧ (c ≤ 6 → isG c x v ≠ 1) := by
  refine ⟨?_, ?_, ?_⟩
  · rintro rfl hk
    simp only [oneS, if_true] at h
    have hn := hs.nulls
    have : x ∈ l.filter fun v => decide (v.kind = 0) := List.mem_filter.2 ⟨hx, by simp [hk]⟩
    have := List.length_pos_of_mem this
    have := of_decide_eq_false h
    omega
  · rintro rfl
    have h := of_decide_eq_false (show decide (s.nulls < s.count) = false from h)
    rw [hs.nulls, hs.count] at h
    have hle := List.length_filter_le (fun v : GV => decide (v.kind = 0)) l
    have heq : (l.filter fun v => decide (v.kind = 0)).length = l.length := by omega
    have := List.length_filter_eq_length_iff.1 heq x hx
    exact of_decide_eq_true this
  · intro hc6 hone
    obtain ⟨hk, hkv, hcd⟩ := isG_one.1 hone
    rcases hs.mn with ⟨a, b⟩ | ⟨a, b, lo⟩
    · exact absurd (a x hx) hk
    rcases hs.mx with ⟨a', b'⟩ | ⟨a', b', hi⟩
    · exact absurd (a' x hx) hk
    have k1 : s.mn.kind = v.kind := (ha _ a _ hx b hk).trans hkv
    have k2 : s.mx.kind = v.kind := (ha _ a' _ hx b' hk).trans hkv
    have l1 := lo x hx hk
    have l2 := hi x hx hk
    have n1 : ∀ d, isCode d (cmpG s.mn v) ≠ 1 → isG d s.mn v ≠ 1 := fun d q e => q (isG_one.1 e).2.2
    have p1 : ∀ d, isCode d (cmpG s.mn v) = 1 → isG d s.mn v = 1 := fun d q => isG_one.2 ⟨b, k1, q⟩
    have p2 : ∀ d, isCode d (cmpG s.mx v) = 1 → isG d s.mx v = 1 := fun d q => isG_one.2 ⟨b', k2, q⟩
    have r := cmpG_range x v
    have rv : cmpG v x = - cmpG x v := cmpG_anti x v
    have rm : cmpG v s.mx = - cmpG s.mx v := cmpG_anti s.mx v
    have lts : cmpG x v < 0 → cmpG s.mn v < 0 := fun q => lt_of_le_of_lt' l1 q
    have les : cmpG x v ≤ 0 → cmpG s.mn v ≤ 0 := fun q => le_trans' l1 q
    have ges : 0 ≤ cmpG x v → 0 ≤ cmpG s.mx v := fun q => by
      have := le_trans' (a := v) (b := x) (c := s.mx) (by omega) l2
      omega
    have gts : 0 < cmpG x v → 0 < cmpG s.mx v := fun q => by
      have h1 : cmpG v x < 0 := by omega
      have h2 := ges (by omega)
      by_cases e : cmpG s.mx v = 0
      · have e' := (cmpG_zero _ _).1 e
        rw [e'] at l2
        omega
      · omega
    have q1 : ∀ n : Int, isCode 1 n = 1 ↔ n = 0 := fun n => by unfold isCode; split <;> omega
    have q2 : ∀ n : Int, isCode 2 n = 1 ↔ n ≠ 0 := fun n => by unfold isCode; split <;> omega
    have q3 : ∀ n : Int, isCode 3 n = 1 ↔ n < 0 := fun n => by unfold isCode; split <;> omega
    have q4 : ∀ n : Int, isCode 4 n = 1 ↔ n ≤ 0 := fun n => by unfold isCode; split <;> omega
    have q5 : ∀ n : Int, isCode 5 n = 1 ↔ 0 < n := fun n => by unfold isCode; split <;> omega
    have q6 : ∀ n : Int, isCode 6 n = 1 ↔ 0 ≤ n := fun n => by unfold isCode; split <;> omega
    have hcases : c = 1 ∨ c = 2 ∨ c = 3 ∨ c = 4 ∨ c = 5 ∨ c = 6 := by omega
    rcases hcases with rfl | rfl | rfl | rfl | rfl | rfl
    · have z := (q1 _).1 hcd
      simp [oneS, p1 4 ((q4 _).2 (les (by omega))), p2 6 ((q6 _).2 (ges (by omega)))] at h
    · have z := (q2 _).1 hcd
      rcases r with r | r | r
      · simp [oneS, p1 2 ((q2 _).2 (by have := lts (by omega); omega))] at h
      · omega
      · simp [oneS, p2 2 ((q2 _).2 (by have := gts (by omega); omega))] at h
    · simp [oneS, p1 3 ((q3 _).2 (lts ((q3 _).1 hcd)))] at h
    · simp [oneS, p1 4 ((q4 _).2 (les ((q4 _).1 hcd)))] at h
    · simp [oneS, p2 5 ((q5 _).2 (gts ((q5 _).1 hcd)))] at h
    · simp [oneS, p2 6 ((q6 _).2 (ges ((q6 _).1 hcd)))] at h

/-- codes of a condition are such as may be -/
def GoodC : CT → Prop
  | .nil => True
  | .node c _ _ l r => 1 ≤ c ∧ c ≤ 11 ∧ GoodC l ∧ GoodC r
theorem may_sound {get : ByteArray → ST} {col : ByteArray → List GV} {row : ByteArray → GV} (hs : ∀ s, KnowS (col s) (get s)) (ha : ∀ s, Alone (col s)) (hr : ∀ s, row s ∈ col s) :
    ∀ (t : CT), GoodC t → (mayS get false t = false → evalC row t ≠ 1) ∧ (mayS get true t = false → evalC row t ≠ 0)
  | .nil, _ => ⟨fun h => by simp [mayS] at h, fun _ => by simp [evalC]⟩
  | .node c cn x l r, hg => by
    obtain ⟨g1, g2, gl, gr⟩ := hg
    obtain ⟨l1, l0⟩ := may_sound hs ha hr l gl
    obtain ⟨r1, r0⟩ := may_sound hs ha hr r gr
    have el := evalC_range row l
    have er := evalC_range row r
    by_cases c11 : c = 11
    · subst c11
      have f : evalC row (.node 11 cn x l r) = if evalC row l < 0 then evalC row l else 1 - evalC row l := by simp [evalC]
      rw [f]
      constructor
      · intro h
        have := l0 (by simpa [mayS] using h)
        split <;> omega
      · intro h
        have := l1 (by simpa [mayS] using h)
        split <;> omega
    by_cases c9 : c = 9
    · subst c9
      have f : evalC row (.node 9 cn x l r) = if evalC row l = 0 ∨ evalC row r = 0 then 0 else if evalC row l < 0 ∨ evalC row r < 0 then -1 else 1 := by simp [evalC]
      rw [f]
      constructor
      · intro h
        have h : mayS get false l = false ∨ mayS get false r = false := by
          rw [show mayS get false (.node 9 cn x l r) = (mayS get false l && mayS get false r) by simp [mayS]] at h
          exact Bool.and_eq_false_iff.1 h
        rcases h with h | h
        · have := l1 h
          repeat' split
          all_goals omega
        · have := r1 h
          repeat' split
          all_goals omega
      · intro h
        have h : mayS get true l = false ∧ mayS get true r = false := by simpa [mayS] using h
        have := l0 h.1
        have := r0 h.2
        repeat' split
        all_goals omega
    by_cases c10 : c = 10
    · subst c10
      have f : evalC row (.node 10 cn x l r) = if evalC row l = 1 ∨ evalC row r = 1 then 1 else if evalC row l < 0 ∨ evalC row r < 0 then -1 else 0 := by simp [evalC]
      rw [f]
      constructor
      · intro h
        have h : mayS get false l = false ∧ mayS get false r = false := by simpa [mayS] using h
        have := l1 h.1
        have := r1 h.2
        repeat' split
        all_goals omega
      · intro h
        have h : mayS get true l = false ∨ mayS get true r = false := by
          rw [show mayS get true (.node 10 cn x l r) = (mayS get true l && mayS get true r) by simp [mayS]] at h
          exact Bool.and_eq_false_iff.1 h
        rcases h with h | h
        · have := l0 h
          repeat' split
          all_goals omega
        · have := r0 h
          repeat' split
          all_goals omega
    have m : ∀ n, mayS get n (.node c cn x l r) = oneS (if n then oppI c else c) (get cn) x := fun n => by simp [mayS, c11, c9, c10]
    rw [m, m]
    simp only [Bool.false_eq_true, if_false, if_true]
    constructor
    · intro h
      obtain ⟨h7, h8, h6⟩ := one_sound (hs cn) (ha cn) ⟨g1, by omega⟩ (hr cn) h
      unfold evalC
      split
      · rw [if_neg (h7 (by assumption))]; omega
      · split
        · rw [if_pos (h8 (by assumption))]; omega
        · exact h6 (by omega)
    · intro h
      have ho : 1 ≤ oppI c ∧ oppI c ≤ 8 := by unfold oppI; repeat' split <;> omega
      obtain ⟨h7, h8, h6⟩ := one_sound (hs cn) (ha cn) ho (hr cn) h
      unfold evalC
      split
      · rename_i e
        rw [if_pos (h8 (by rw [e]; rfl))]; omega
      · split
        · rename_i e
          rw [if_neg (h7 (by rw [e]; rfl))]; omega
        · have hcases : c = 1 ∨ c = 2 ∨ c = 3 ∨ c = 4 ∨ c = 5 ∨ c = 6 := by omega
          have := h6 (by rcases hcases with rfl | rfl | rfl | rfl | rfl | rfl <;> decide)
          intro e
          apply this
          unfold isV at e
          unfold isG isV
          split at e
          · omega
          · rename_i hh
            rw [if_neg hh]
            have r := cmpG_range (row cn) x
            unfold cmpG at r
            generalize cmpV (row cn).kind (row cn).num (row cn).text x.kind x.num x.text = n at *
            rcases hcases with rfl | rfl | rfl | rfl | rfl | rfl <;> rcases r with rfl | rfl | rfl <;> revert e <;> decide
theorem good_op {c : Int} (h : 1 ≤ c ∧ c ≤ 11) {l r : CT} (hl : GoodC l) (hr : GoodC r) : GoodC (opC c l r) := ⟨h.1, h.2, hl, hr⟩
theorem good_step {st : List CT} {x : PG} (h : ∀ t ∈ st, GoodC t) : ∀ t ∈ stepC st x, GoodC t := by
  have hg : ∀ i, GoodC (st.getD i .nil) := fun i => by
    rw [List.getD_eq_getElem?_getD]
    rcases hi : st[i]? with _ | t
    · exact trivial
    · exact h t (List.mem_of_getElem? hi)
  unfold stepC
  intro t ht
  split at ht
  · rcases List.mem_append.1 ht with ht | ht
    · exact h t (List.mem_of_mem_take ht)
    · rw [List.mem_singleton.1 ht]; exact good_op (by omega) (hg _) trivial
  · split at ht
    · rename_i hc
      rcases List.mem_append.1 ht with ht | ht
      · exact h t (List.mem_of_mem_take ht)
      · rw [List.mem_singleton.1 ht]; exact good_op (by omega) (hg _) (hg _)
    · split at ht
      · rename_i hc
        rcases List.mem_append.1 ht with ht | ht
        · exact h t ht
        · rw [List.mem_singleton.1 ht]; exact ⟨hc.1, by omega, trivial, trivial⟩
      · split at ht
        · rename_i hc
          rcases List.mem_append.1 ht with ht | ht
          · exact h t ht
          · rw [List.mem_singleton.1 ht]; exact ⟨by omega, by omega, trivial, trivial⟩
        · exact h t ht
theorem good_fold : ∀ (l : List PG) (st : List CT), (∀ t ∈ st, GoodC t) → ∀ t ∈ l.foldl stepC st, GoodC t
  | [], _, h => h
  | x :: l, st, h => good_fold l (stepC st x) (good_step h)
theorem good_foldC : ∀ (rest : List CT) (c : CT), GoodC c → (∀ t ∈ rest, GoodC t) → GoodC (rest.foldl (fun a b => opC 9 a b) c)
  | [], _, h, _ => h
  | t :: rest, c, h, hr => good_foldC rest _ (good_op (by omega) h (hr t (by simp))) fun u hu => hr u (by simp [hu])
theorem good_cond (l : List PG) : GoodC (condT l) := by
  have h : ∀ t ∈ stackC l, GoodC t := good_fold _ [] (by simp)
  unfold condT
  cases hs : stackC l with
  | nil => exact trivial
  | cons c rest =>
    rw [hs] at h
    exact good_foldC rest c (h c (by simp)) fun t ht => h t (by simp [ht])
end Go.Proofs.YtcpllhjhnfmepaaGreatDoor

/- stats: values as Go has them; what the walks of stats lean on. -/
namespace Go.Proofs.YtcpllhjhnfmepaaGreatDoor
set_option linter.all false
set_option linter.unusedSimpArgs false
set_option linter.unusedVariables false
open Go.RowKit

def gvV (x : GV) : Value := .agg #[.int .i64 x.kind, .int .i64 x.num, .string x.text]
def stV (s : ST) : Value := .agg #[.int .i64 s.count, .int .i64 s.nulls, .int .i64 s.mn.kind, .int .i64 s.mn.num, .string s.mn.text, .int .i64 s.mx.kind, .int .i64 s.mx.num, .string s.mx.text]

/-- the blocks of stats.Both: b at B, the result at B + 1, out at B + 1 + 1 -/
structure BothF (w : World) (B : Nat) (b : ST) (c n : Int) (p q : GV) (wx : World) : Prop where
  b2 : wx.cell? ⟨B, 2, none⟩ = some (.int .i64 b.mn.kind)
  b3 : wx.cell? ⟨B, 3, none⟩ = some (.int .i64 b.mn.num)
  b4 : wx.cell? ⟨B, 4, none⟩ = some (.string b.mn.text)
  b5 : wx.cell? ⟨B, 5, none⟩ = some (.int .i64 b.mx.kind)
  b6 : wx.cell? ⟨B, 6, none⟩ = some (.int .i64 b.mx.num)
  b7 : wx.cell? ⟨B, 7, none⟩ = some (.string b.mx.text)
  r : wx.heap[B + 1]? = some (.cells #[.int .i64 0, .int .i64 0, .int .i64 0, .int .i64 0, .string ⟨#[]⟩, .int .i64 0, .int .i64 0, .string ⟨#[]⟩] 70 (0, 0))
  o : wx.heap[B + 1 + 1]? = some (.cells #[.int .i64 c, .int .i64 n, .int .i64 p.kind, .int .i64 p.num, .string p.text, .int .i64 q.kind, .int .i64 q.num, .string q.text] 70 (0, 0))
  x : Ext w wx
theorem BothF.ext {w : World} {B : Nat} {b : ST} {c n : Int} {p q : GV} {wx wy : World} (h : BothF w B b c n p q wx) (hx : Ext wx wy) : BothF w B b c n p q wy :=
  ⟨hx.keeps h.b2, hx.keeps h.b3, hx.keeps h.b4, hx.keeps h.b5, hx.keeps h.b6, hx.keeps h.b7, heap_keeps hx h.r, heap_keeps hx h.o, h.x.trans hx⟩

end Go.Proofs.YtcpllhjhnfmepaaGreatDoor

/- stats.one, stats.may, stats.May -/
namespace Go.Proofs.YtcpllhjhnfmepaaGreatDoor
set_option linter.all false
set_option linter.unusedSimpArgs false
set_option linter.unusedVariables false
open Go.RowKit
set_option maxRecDepth 100000 in
set_option maxHeartbeats 8000000 in
theorem one_any (c : Int) (s : ST) (v : GV) (w : World) : Calls Tryz.prog 107 #[.int .i64 c, stV s, gvV v] w fun e w' => e = .returned (.bool (oneS c s v)) ∧ Ext w w' := by
  unfold stV gvV
  have hS := St.init w
  have hR := Reads.nil w
  go_enter Tryz.func107, Tryz.ntmps107
  go_wp2_with (first | ((first | with_reducible refine abs_list_alloc (by (repeat (first | with_reducible exact hS | with_reducible apply St.drew | with_reducible apply St.alloc | with_reducible apply St.put | with_reducible apply atS | with_reducible exact at0 | with_reducible exact at1 | with_reducible exact at2 | with_reducible exact at3 | with_reducible exact at4 | with_reducible exact at5))) ?_ | with_reducible refine abs_list_set (by (repeat (first | with_reducible exact hS | with_reducible apply St.drew | with_reducible apply St.alloc | with_reducible apply St.put | with_reducible apply atS | with_reducible exact at0 | with_reducible exact at1 | with_reducible exact at2 | with_reducible exact at3 | with_reducible exact at4 | with_reducible exact at5))) ?_ | with_reducible refine abs_list_drew (by (repeat (first | with_reducible exact hS | with_reducible apply St.drew | with_reducible apply St.alloc | with_reducible apply St.put | with_reducible apply atS | with_reducible exact at0 | with_reducible exact at1 | with_reducible exact at2 | with_reducible exact at3 | with_reducible exact at4 | with_reducible exact at5))) ?_ | with_reducible refine abs_code_alloc (by (repeat (first | with_reducible exact hS | with_reducible apply St.drew | with_reducible apply St.alloc | with_reducible apply St.put | with_reducible apply atS | with_reducible exact at0 | with_reducible exact at1 | with_reducible exact at2 | with_reducible exact at3 | with_reducible exact at4 | with_reducible exact at5))) ?_ | with_reducible refine abs_code_set (by (repeat (first | with_reducible exact hS | with_reducible apply St.drew | with_reducible apply St.alloc | with_reducible apply St.put | with_reducible apply atS | with_reducible exact at0 | with_reducible exact at1 | with_reducible exact at2 | with_reducible exact at3 | with_reducible exact at4 | with_reducible exact at5))) ?_ | with_reducible refine abs_code_drew (by (repeat (first | with_reducible exact hS | with_reducible apply St.drew | with_reducible apply St.alloc | with_reducible apply St.put | with_reducible apply atS | with_reducible exact at0 | with_reducible exact at1 | with_reducible exact at2 | with_reducible exact at3 | with_reducible exact at4 | with_reducible exact at5))) ?_ | with_reducible refine abs_post_alloc (by (repeat (first | with_reducible exact hS | with_reducible apply St.drew | with_reducible apply St.alloc | with_reducible apply St.put | with_reducible apply atS | with_reducible exact at0 | with_reducible exact at1 | with_reducible exact at2 | with_reducible exact at3 | with_reducible exact at4 | with_reducible exact at5))) ?_ | with_reducible refine abs_post_set (by (repeat (first | with_reducible exact hS | with_reducible apply St.drew | with_reducible apply St.alloc | with_reducible apply St.put | with_reducible apply atS | with_reducible exact at0 | with_reducible exact at1 | with_reducible exact at2 | with_reducible exact at3 | with_reducible exact at4 | with_reducible exact at5))) ?_ | with_reducible refine abs_post_drew (by (repeat (first | with_reducible exact hS | with_reducible apply St.drew | with_reducible apply St.alloc | with_reducible apply St.put | with_reducible apply atS | with_reducible exact at0 | with_reducible exact at1 | with_reducible exact at2 | with_reducible exact at3 | with_reducible exact at4 | with_reducible exact at5))) ?_ | with_reducible refine abs_calls_alloc (by (repeat (first | with_reducible exact hS | with_reducible apply St.drew | with_reducible apply St.alloc | with_reducible apply St.put | with_reducible apply atS | with_reducible exact at0 | with_reducible exact at1 | with_reducible exact at2 | with_reducible exact at3 | with_reducible exact at4 | with_reducible exact at5))) ?_ | with_reducible refine abs_calls_set (by (repeat (first | with_reducible exact hS | with_reducible apply St.drew | with_reducible apply St.alloc | with_reducible apply St.put | with_reducible apply atS | with_reducible exact at0 | with_reducible exact at1 | with_reducible exact at2 | with_reducible exact at3 | with_reducible exact at4 | with_reducible exact at5))) ?_ | with_reducible refine abs_calls_drew (by (repeat (first | with_reducible exact hS | with_reducible apply St.drew | with_reducible apply St.alloc | with_reducible apply St.put | with_reducible apply atS | with_reducible exact at0 | with_reducible exact at1 | with_reducible exact at2 | with_reducible exact at3 | with_reducible exact at4 | with_reducible exact at5))) ?_); ((try clear hF); clear hS; intro wk hS; (try simp only [List.set_cons_zero, List.set_cons_succ, heap_size, heap_set_size] at hS); ((try clear hF); have hF := And.intro hS.facts (hR.at hS.ext); simp only [Facts, cellFacts, RFacts, cellOnly, and_true, true_and, Nat.zero_add, Nat.reduceAdd] at hF))) | (go_at_call 56; (with_reducible refine (is_any _ _ _ _ _ _ _ _).mono ?_); rintro e wk ⟨rfl, hX⟩; replace hS := hS.step hX; clear hX; ((try clear hF); have hF := And.intro hS.facts (hR.at hS.ext); simp only [Facts, cellFacts, RFacts, cellOnly, and_true, true_and, Nat.zero_add, Nat.reduceAdd] at hF)))
  all_goals
    (go_ret; refine ⟨?_, hS.ext⟩; go_tidy; clear hS; (try clear hF); (try simp_all [int_beq, oneS, isG]) <;> (first | rfl | exact decide_eq_decide.2 Iff.rfl | omega))
end Go.Proofs.YtcpllhjhnfmepaaGreatDoor
