/- Texts joined: Bytes that a call builds; numbers written seven bits a byte: encode.number, signed, one. A drawn region of quiet operations and of one call, whose result parts; behind it all wait for it. For any program. the writer of files: number, text. In a round of a range over a function, and in an iterator: regions and appends under Hp. For any program. api.Tell. -/
import Derived.Test.YtcpllhjhnfmepaaGreatDoorFW04
import Derived.Test.YtcpllhjhnfmepaaGreatDoorFW02
import Derived.Lib.VarintBits
import Derived.Lib.Varint
import Derived.Lib.Zigzag
import Derived.RangeFuncNested
import Derived.RangeFuncBound
import Derived.RangeFuncCalls
import Derived.RangeFuncLeaves
import Derived.Shelf.Abstract
import Derived.Shelf.RegionOpen
import Derived.WalkKit
import Derived.OwnWalkIn
import Derived.TacticsInMore
import Derived.LoopNIn
import Derived.LoopIn
/- Bytes that a call builds; numbers written seven bits a byte: encode.number, signed, one. -/
namespace Go.Proofs.YtcpllhjhnfmepaaGreatDoor
set_option linter.all false
set_option linter.unusedSimpArgs false
set_option linter.unusedVariables false
open Go.RowKit
open Go.Lib (uvarint zigzag)
def B8 (c : UInt8) : Value := .int .u8 (c.toNat : Int)
theorem Tryz.elem_bytes : Elem Tryz.prog 88 5 1 1 := by
  obtain ⟨i0, hi0, hz0, hz1, hz2⟩ := info_parts (show (Tryz.prog.info? 5).map (fun i => (i.zero, i.size, i.bytes)) = some (some (.int .u8 0), 1, 1) by kernel_rfl)
  exact ⟨Tryz.underlying88, ⟨i0, _, hi0, hz0, hz1, hz2, rfl⟩, by omega⟩
theorem Tryz.zero_byte : (Tryz.prog.info? 5).bind (·.zero) = some (.int .u8 0) := by kernel_rfl
/-- a slice of bytes that is built -/
abbrev bRow (A : Option Addr) (cap : Nat) (l : List UInt8) : Item := .row 5 1 A l.length cap (l.map B8)
/-- the slice of bytes at the head has become l -/
def BRes (B : Nat) (w0 : World) (L : List Item) (l : List UInt8) (e : Ending) (w' : World) : Prop :=
  ∃ A cap l', e = .returned (.slice A l'.length cap) ∧ Hid (l' = l) ∧ Hp B w0 w' (bRow A cap l' :: L)
theorem b8_of (n : Nat) (h : n < 256) : Value.int .u8 (n : Int) = B8 (UInt8.ofNat n) := by
  unfold B8
  congr 1
  rw [UInt8.toNat_ofNat']
  omega
theorem bRow_push {B : Nat} {w0 w : World} {L : List Item} {A : Option Addr} {cap : Nat} {l : List UInt8} {v : Value} {c : UInt8} (hv : v = B8 c) (h : Hp B w0 w (.row 5 1 A (l.length + 1) cap (l.map B8 ++ [v]) :: L)) : Hp B w0 w (bRow A cap (l ++ [c]) :: L) := by
  subst hv
  unfold bRow
  simpa using h
theorem and127 (m : Nat) (h : m < 18446744073709551616) : bits .and .u64 (m : Int) 127 = (m : Int) % 128 := by
  have h := bits_mask .u64 64 (by decide) (fun n h₀ h₁ => by rw [IntKind.wrap_u64]; omega) 7 (by decide) (m : Int) (by omega) (by omega)
  have e : (2 : Int) ^ 7 - 1 = 127 := by decide
  rw [e] at h
  exact h
theorem or128 (m : Nat) : bits .or .u8 ((m : Int) % 128) 128 = (m : Int) % 128 + 128 := by
  rw [Lib.u8_or128_any _ (by omega) (by omega)]
  omega
set_option maxRecDepth 100000 in
set_option maxHeartbeats 8000000 in
theorem number_any {B : Nat} {w0 w : World} {L : List Item} (A : Option Addr) (cap : Nat) (l : List UInt8) (u : Nat) (hu : u < 18446744073709551616) (hl : l.length ≤ 1000000000000) (hS : Hp B w0 w (bRow A cap l :: L)) :
    Calls Tryz.prog 71 #[.slice A l.length cap, .int .u64 u] w (BRes B w0 L (l ++ uvarint u)) := by
  obtain ⟨n, hn⟩ : ∃ n, n = l.length := ⟨_, rfl⟩
  rw [← hn]
  have Hn := Lib.hid hn
  rw [← hn] at hl
  clear hn
  unfold bRow at hS
  rw [← Hn.out] at hS
  have hlen := Lib.uvarint_length64 hu
  have HL := Lib.hid hlen
  clear hlen
  go_enter Tryz.func71, Tryz.ntmps71
  go_wp2_with fail
  go_loopw [0, 1] (fun b x wr => ∃ (A : Option Addr) (cap n : Nat) (l' : List UInt8) (m : Nat), b = .slice A n cap ∧ x = .int .u64 m ∧ m < 18446744073709551616 ∧ Hid (n = l'.length) ∧ Hid (l' ++ uvarint m = l ++ uvarint u) ∧ Hp B w0 wr (.row 5 1 A n cap (l'.map B8) :: L)) (fun _ x _ => (intOf x).toNat)
  case atStart => exact ⟨A, cap, n, l, u, rfl, rfl, hu, Hn, Lib.hid rfl, hS⟩
  case round =>
    clear hS
    obtain ⟨A, cap, n', l', m, rfl, rfl, hm, Hn', Hl, hS⟩ := hrel
    have hb : n' ≤ n + 10 := by
      have h1 := congrArg List.length Hl.out
      simp only [List.length_append] at h1
      have := Lib.uvarint_pos m
      have := HL.out
      have := Hn.out
      have := Hn'.out
      omega
    by_cases hbig : m < 128
    · have hlt : (m : Int) < 128 := by omega
      have hw : IntKind.u8.wrap (m : Int) = m := by simp [IntKind.wrap, IntKind.bits, IntKind.signed]; omega
      go_wp2_with (first | ((with_reducible first | refine nhLa ?_ | refine nhLs ?_ | refine nhLd ?_ | refine nhCa ?_ | refine nhCs ?_ | refine nhCd ?_ | refine nhPa ?_ | refine nhPs ?_ | refine nhPd ?_ | refine nhKa ?_ | refine nhKs ?_ | refine nhKd ?_); ((try clear hF); clear hS; intro wk hS; (try simp only [List.set_cons_zero, List.set_cons_succ, heap_size, heap_set_size] at hS); ((try clear hF); (first | have hF := And.intro hS.facts (hR.at hS.ext) | have hF := hS.facts); simp only [HFacts, cellFacts, RFacts, cellOnly, and_true, true_and, Nat.zero_add, Nat.reduceAdd] at hF))) | (at_builtin; refine wpList_push_hp Tryz.elem_bytes rfl (.tmp 16) (.tmp 19) rfl (hS.second 0 rfl) rfl rfl rfl (by simp [Value.oneCell']) (by omega) (by omega) ?_; clear hS; intro Ak capk wk hS; (try simp only [List.eraseIdx_cons_zero, List.eraseIdx_cons_succ, List.set_cons_zero, List.set_cons_succ] at hS); ((try clear hF); (first | have hF := And.intro hS.facts (hR.at hS.ext) | have hF := hS.facts); simp only [HFacts, cellFacts, RFacts, cellOnly, and_true, true_and, Nat.zero_add, Nat.reduceAdd] at hF)))
      go_ret
      refine ⟨Ak, capk, l' ++ uvarint m, ?_, Hl, ?_⟩
      · rw [Lib.uvarint_small hbig, List.length_append]; have := Hn'.out; subst this; rfl
      · have := Hn'.out; subst this
        rw [Lib.uvarint_small hbig]
        exact bRow_push (b8_of m (by omega)) hS
    · have hge : (128 : Int) ≤ m := by omega
      have hw := and127 m hm
      have hw2 := or128 m
      have HB := Lib.hid hbig
      have hv : Value.int .u8 ((m : Int) % 128 + 128) = B8 (UInt8.ofNat (m % 128 + 128)) := by rw [← b8_of _ (by omega)]; simp
      have HV' := Lib.hid hv
      clear hv
      clear hbig
      go_wp2_with (first | ((with_reducible first | refine nhLa ?_ | refine nhLs ?_ | refine nhLd ?_ | refine nhCa ?_ | refine nhCs ?_ | refine nhCd ?_ | refine nhPa ?_ | refine nhPs ?_ | refine nhPd ?_ | refine nhKa ?_ | refine nhKs ?_ | refine nhKd ?_); ((try clear hF); clear hS; intro wk hS; (try simp only [List.set_cons_zero, List.set_cons_succ, heap_size, heap_set_size] at hS); ((try clear hF); (first | have hF := And.intro hS.facts (hR.at hS.ext) | have hF := hS.facts); simp only [HFacts, cellFacts, RFacts, cellOnly, and_true, true_and, Nat.zero_add, Nat.reduceAdd] at hF))) | (at_builtin; refine wpList_push_hp Tryz.elem_bytes rfl (.tmp 9) (.tmp 14) rfl (hS.second 0 rfl) rfl rfl rfl (by simp [Value.oneCell']) (by omega) (by omega) ?_; clear hS; intro Ak capk wk hS; (try simp only [List.eraseIdx_cons_zero, List.eraseIdx_cons_succ, List.set_cons_zero, List.set_cons_succ] at hS); ((try clear hF); (first | have hF := And.intro hS.facts (hR.at hS.ext) | have hF := hS.facts); simp only [HFacts, cellFacts, RFacts, cellOnly, and_true, true_and, Nat.zero_add, Nat.reduceAdd] at hF)))
      go_roundw
      case rel =>
        refine ⟨Ak, capk, n' + 1, l' ++ [UInt8.ofNat (m % 128 + 128)], m / 128, rfl, by go_num, by omega, Lib.hid (by rw [Hn'.out]; simp), Lib.hid ?_, ?_⟩
        · rw [← Hl.out, Lib.uvarint_big (x := m) (by have := HB.out; omega)]; simp
        · have := Hn'.out; subst this
          have := bRow_push HV'.out hS; unfold bRow at this; simpa using this
      case measure => simp [intOf]; omega
theorem number_int {B : Nat} {w0 w : World} {L : List Item} (A : Option Addr) (cap : Nat) (l : List UInt8) (u : Int) (h0 : 0 ≤ u) (hu : u < 18446744073709551616) (hl : l.length ≤ 1000000000000) (hS : Hp B w0 w (bRow A cap l :: L)) :
    Calls Tryz.prog 71 #[.slice A l.length cap, .int .u64 u] w (BRes B w0 L (l ++ uvarint u.toNat)) := by
  obtain ⟨n, rfl⟩ := Int.eq_ofNat_of_zero_le h0
  exact number_any A cap l n (by omega) hl hS
theorem xor_comm64 (a b : Int) : bits .xor .u64 a b = bits .xor .u64 b a := by
  show IntKind.u64.wrap ((BitVec.ofInt 64 a ^^^ BitVec.ofInt 64 b).toNat : Int) = IntKind.u64.wrap ((BitVec.ofInt 64 b ^^^ BitVec.ofInt 64 a).toNat : Int)
  rw [BitVec.xor_comm]
theorem zig_pos (x : Int) (h0 : 0 ≤ x) (h1 : x ≤ 9223372036854775807) : bits .xor .u64 (x * 2) (x / 9223372036854775808) = (zigzag x : Int) := by
  have e : x / 9223372036854775808 = ((0 : Nat) : Int) := by omega
  have e2 : x * 2 = (((x * 2).toNat : Nat) : Int) := by omega
  rw [e, e2, bits_xor_u64_nat _ _ (by omega) (by decide), Nat.xor_zero]
  unfold zigzag
  rw [if_pos h0]
  omega
theorem zig_neg (x : Int) (h0 : x < 0) (h1 : -9223372036854775808 ≤ x) : bits .xor .u64 (IntKind.u64.wrap (IntKind.u64.wrap x * 2)) (IntKind.u64.wrap (x / 9223372036854775808)) = (zigzag x : Int) := by
  have e : x / 9223372036854775808 = -1 := by omega
  have e2 : IntKind.u64.wrap (-1) = IntKind.u64.max := by decide
  rw [e, e2, xor_comm64, Lib.zigzag_neg h1 h0]
set_option maxRecDepth 100000 in
set_option maxHeartbeats 8000000 in
theorem signed_any {B : Nat} {w0 w : World} {L : List Item} (A : Option Addr) (cap : Nat) (l : List UInt8) (x : Int) (hx : i64 x) (hl : l.length ≤ 1000000000000) (hS : Hp B w0 w (bRow A cap l :: L)) :
    Calls Tryz.prog 95 #[.slice A l.length cap, .int .i64 x] w (BRes B w0 L (l ++ uvarint (zigzag x))) := by
  obtain ⟨hx0, hx1⟩ := hx
  have hN := number_any A cap l (zigzag x) (Lib.zigzag_lt hx0 hx1) hl hS
  clear hS
  by_cases h0 : 0 ≤ x
  · rw [← zig_pos x h0 hx1] at hN
    have HN := Lib.hid hN
    clear hN
    go_enter Tryz.func95, Tryz.ntmps95
    go_wp2_with (go_at_call 71; (with_reducible refine HN.out.mono ?_); rintro e wk ⟨Ak, capk, l', rfl, Hl, hS⟩)
    go_ret
    exact ⟨Ak, capk, l', rfl, Hl, hS⟩
  · rw [← zig_neg x (by omega) hx0] at hN
    have HN := Lib.hid hN
    clear hN
    go_enter Tryz.func95, Tryz.ntmps95
    go_wp2_with (go_at_call 71; (with_reducible refine HN.out.mono ?_); rintro e wk ⟨Ak, capk, l', rfl, Hl, hS⟩)
    go_ret
    exact ⟨Ak, capk, l', rfl, Hl, hS⟩
/-- a value as it is written -/
def encV (v : GV) : List UInt8 := if v.kind = 1 then uvarint (zigzag v.num) else uvarint v.text.size ++ v.text.data.toList
theorem strCells_b8 (s : ByteArray) : Lib.strCells s = s.data.toList.map B8 := rfl
set_option maxRecDepth 100000 in
set_option maxHeartbeats 8000000 in
theorem enc_one_any {B : Nat} {w0 w : World} {L : List Item} (A : Option Addr) (cap : Nat) (l : List UInt8) (v : GV) (hx : i64 v.num) (hs : v.text.size ≤ 1000000000000) (hl : l.length ≤ 1000000000000) (hS : Hp B w0 w (bRow A cap l :: L)) :
    Calls Tryz.prog 92 #[.slice A l.length cap, .agg #[.int .i64 v.kind, .int .i64 v.num, .string v.text]] w (BRes B w0 L (l ++ encV v)) := by
  have hN := fun (w : World) (L : List Item) hS => signed_any (w0 := w0) (w := w) (B := B) (L := L) A cap l v.num hx hl hS
  have hM := fun (w : World) (L : List Item) hS => number_any (w0 := w0) (w := w) (B := B) (L := L) A cap l v.text.size (by omega) hl hS
  have HN := Lib.hid hN
  have HM := Lib.hid hM
  clear hN hM
  obtain ⟨hx0, hx1⟩ := hx
  by_cases h1 : v.kind = 1
  · have e : encV v = uvarint (zigzag v.num) := by unfold encV; rw [if_pos h1]
    rw [e]
    have hb : (v.kind == 1) = true := by simp [h1]
    clear h1 e
    go_enter Tryz.func92, Tryz.ntmps92
    go_wp2_with (first | ((with_reducible first | refine nhLa ?_ | refine nhLs ?_ | refine nhLd ?_ | refine nhCa ?_ | refine nhCs ?_ | refine nhCd ?_ | refine nhPa ?_ | refine nhPs ?_ | refine nhPd ?_ | refine nhKa ?_ | refine nhKs ?_ | refine nhKd ?_); ((try clear hF); clear hS; intro wk hS; (try simp only [List.set_cons_zero, List.set_cons_succ, heap_size, heap_set_size] at hS); ((try clear hF); (first | have hF := And.intro hS.facts (hR.at hS.ext) | have hF := hS.facts); simp only [HFacts, cellFacts, RFacts, cellOnly, and_true, true_and, Nat.zero_add, Nat.reduceAdd] at hF))) | (go_at_call 95; (with_reducible refine Calls.mono (HN.out _ _ (hS.front 1 rfl)) ?_); clear hS; rintro e wk ⟨Ak, capk, l', rfl, Hl, hS⟩; (try simp only [List.eraseIdx_cons_zero, List.eraseIdx_cons_succ, List.set_cons_zero, List.set_cons_succ] at hS); ((try clear hF); (first | have hF := And.intro hS.facts (hR.at hS.ext) | have hF := hS.facts); simp only [HFacts, cellFacts, RFacts, cellOnly, and_true, true_and, Nat.zero_add, Nat.reduceAdd] at hF)))
    go_ret
    exact ⟨Ak, capk, l', rfl, Hl, hS.sub (by simp)⟩
  · have hb : (v.kind == 1) = false := by simp [h1]
    have e : encV v = uvarint v.text.size ++ v.text.data.toList := by unfold encV; rw [if_neg h1]
    rw [e]
    clear h1 e
    have hwz : IntKind.u64.wrap (v.text.size : Int) = v.text.size := by rw [IntKind.wrap_u64]; omega
    go_enter Tryz.func92, Tryz.ntmps92
    go_wp2_with (first | ((with_reducible first | refine nhLa ?_ | refine nhLs ?_ | refine nhLd ?_ | refine nhCa ?_ | refine nhCs ?_ | refine nhCd ?_ | refine nhPa ?_ | refine nhPs ?_ | refine nhPd ?_ | refine nhKa ?_ | refine nhKs ?_ | refine nhKd ?_); ((try clear hF); clear hS; intro wk hS; (try simp only [List.set_cons_zero, List.set_cons_succ, heap_size, heap_set_size] at hS); ((try clear hF); (first | have hF := And.intro hS.facts (hR.at hS.ext) | have hF := hS.facts); simp only [HFacts, cellFacts, RFacts, cellOnly, and_true, true_and, Nat.zero_add, Nat.reduceAdd] at hF))) | fail)
    ((with_reducible refine wp_region_chain_hp [.q, .q, .q, .q, .q, .t, .q, .q, .t, .t] [.blk w.heap.size [.int .i64 v.kind, .int .i64 v.num, .string v.text] 45] (by kernel_rfl) rfl (by kernel_rfl) hS (fun w h => h.sub (by simp)) ?_); clear hS; (repeat ((with_reducible refine Walk.here ?_); (first | ((with_reducible apply Walk.skipQ); (first | rfl | exact wanted_false rfl rfl rfl (by assumption)); (try simp only [Mark.isQ, if_true, Bool.false_eq_true, if_false, Act.put, List.setIfInBounds_toArray, List.set_cons_zero, List.set_cons_succ])) | ((with_reducible apply Walk.val); (first | rfl | exact wanted_true rfl rfl rfl (by assumption)); (rintro w hS; ((try clear hF); (first | have hF := And.intro hS.facts (hR.at hS.ext) | have hF := hS.facts); simp only [HFacts, cellFacts, RFacts, cellOnly, and_true, true_and, Nat.zero_add, Nat.reduceAdd] at hF); go_simp; with_reducible rfl); (try simp only [Mark.isQ, if_true, Bool.false_eq_true, if_false, Act.put, List.setIfInBounds_toArray, List.set_cons_zero, List.set_cons_succ])) | ((with_reducible apply Walk.tail); (try simp only [Mark.isQ, if_true, Bool.false_eq_true, if_false, Act.put, List.setIfInBounds_toArray, List.set_cons_zero, List.set_cons_succ])) | ((with_reducible apply Walk.guardT); rfl; rfl; rfl; (all_goals intro hg)) | ((with_reducible apply Walk.guardF); rfl; rfl; rfl; (all_goals intro hg))))); refine Walk.done ?_; simp only [chainOf, Mark.isT, if_true, Bool.false_eq_true, if_false])
    (refine Chain.call (by (first | rfl | exact wanted_true rfl rfl rfl (by assumption))) (by rintro w hS; ((try clear hF); (first | have hF := And.intro hS.facts (hR.at hS.ext) | have hF := hS.facts); simp only [HFacts, cellFacts, RFacts, cellOnly, and_true, true_and, Nat.zero_add, Nat.reduceAdd] at hF); go_simp; exact ⟨rfl, rfl⟩) ?_; (intro w hS); (with_reducible refine Calls.mono (HM.out _ _ (hS.front 1 rfl)) ?_); clear hS; rintro e wk ⟨Ak, capk, l', rfl, Hl, hS⟩; (try simp only [List.eraseIdx_cons_zero, List.eraseIdx_cons_succ, List.set_cons_zero, List.set_cons_succ] at hS); refine ⟨_, _, rfl, hS, (fun w h => h.sub (by simp)), ?_⟩; (clear hS); try simp only [Act.put, List.setIfInBounds_toArray, List.set_cons_zero, List.set_cons_succ])
    have hl' : l'.length ≤ 100000000000000 := by
      have := congrArg List.length Hl.out
      have := Lib.uvarint_length64 (x := v.text.size) (by omega)
      simp at *; omega
    (refine Chain.appendStr Tryz.elem_bytes Tryz.zero_byte Tryz.underlying9 (by (first | rfl | exact wanted_true rfl rfl rfl (by assumption))) (.tmp 17) (.tmp 19) rfl 0 rfl rfl rfl _ rfl (by omega) (fun w h => h.sub (by simp)) ?_; intro A3 cap3; (try simp only [List.eraseIdx_cons_zero, List.eraseIdx_cons_succ, List.set_cons_zero, List.set_cons_succ] at hS); try simp only [Act.put, List.setIfInBounds_toArray, List.set_cons_zero, List.set_cons_succ])
    (refine Chain.val (by (first | rfl | exact wanted_true rfl rfl rfl (by assumption))) (fun w h => h.sub (by simp)) (by rintro w hS; ((try clear hF); (first | have hF := And.intro hS.facts (hR.at hS.ext) | have hF := hS.facts); simp only [HFacts, cellFacts, RFacts, cellOnly, and_true, true_and, Nat.zero_add, Nat.reduceAdd] at hF); go_simp; with_reducible rfl) ?_; try simp only [Act.put, List.setIfInBounds_toArray, List.set_cons_zero, List.set_cons_succ])
    (refine Chain.done ?_; (try clear hF); intro wk hS; ((try clear hF); (first | have hF := And.intro hS.facts (hR.at hS.ext) | have hF := hS.facts); simp only [HFacts, cellFacts, RFacts, cellOnly, and_true, true_and, Nat.zero_add, Nat.reduceAdd] at hF))
    go_wp2
    go_ret
    refine ⟨A3, cap3, l' ++ v.text.data.toList, ?_, Lib.hid (by rw [Hl.out]; simp), ?_⟩
    · rw [List.length_append]; rfl
    · have := hS.sub (M := .row 5 1 A3 (l'.length + v.text.size) cap3 (l'.map B8 ++ Lib.strCells v.text) :: L) (by simp)
      rw [strCells_b8, ← List.map_append] at this
      unfold bRow
      rw [List.length_append]
      exact this
end Go.Proofs.YtcpllhjhnfmepaaGreatDoor

/- A drawn region of quiet operations and of one call, whose result parts; behind it all wait for it. For any program. -/
namespace Go.Proofs.YtcpllhjhnfmepaaGreatDoor
set_option linter.all false
open Go.RowKit
section
variable {P : Program} {ops : Array Oper} {F : World → Prop}

theorem wpAny_fixedD (D : Nat → Bool) {Q : Exit → Act → World → Prop} {a0 : Act} {w0 : World} {vs : Nat → Value} (hd : dstApart ops = true) (hl : looksOk ops = true) (hcl : ∀ w w', F w → Ext w w' → F w')
    (hst : ∀ i o, D i = false → ops[i]? = some o → (Region.wanted o (yielded ops (frameTo ops vs a0 i).tmps) = true ∧ StepOK P F o (frameTo ops vs a0 i) (vs i)) ∨ (Region.wanted o (yielded ops (frameTo ops vs a0 i).tmps) = false ∧ vs i = undef))
    (hQ : ∀ w, Ext w0 w → F w → Q .normal (frameTo ops vs a0 ops.size) w) :
    ∀ (fuel : Nat) (listed : Array Bool) (w : World), listed.size = ops.size → ((List.range ops.size).filter fun j => !listed.getD j true).length ≤ fuel →
      (∀ i j, listed.getD i false = true → waits ops i j = true → listed.getD j false = true) → (∀ i, D i = true → listed.getD i false = true) → F w → Ext w0 w →
      wpAny P .any ops Q fuel listed (frameOf ops vs (fun j => listed.getD j false) a0 ops.size) w := by
  -- whoever is not listed: the first of them may come up
  have first : ∀ listed : Array Bool, listed.size = ops.size → Region.ready .any ops listed = [] → ∀ i, i < ops.size → listed.getD i false = true := by
    intro listed hs hr i
    induction i using Nat.strongRecOn with
    | _ i ih =>
      intro hi
      cases hb : listed.getD i false with
      | true => rfl
      | false =>
        have ho : ops[i]? = some ops[i] := Array.getElem?_eq_getElem hi
        have hmem : i ∈ Region.ready .any ops listed := mem_ready.2 ⟨by
          have hli : i < listed.size := by omega
          simpa [Array.getD_eq_getD_getElem?, hli] using hb, _, ho, fun e he hbd => by
            have hl' := hl
            unfold looksOk at hl'
            rw [List.all_eq_true] at hl'
            have h1 := hl' i (by simpa using hi)
            rw [ho] at h1
            simp only [Bool.and_eq_true] at h1
            have h2 := h1.1.2
            have h3 := (Array.all_eq_true_iff_forall_mem.1 h2) e he
            rw [hbd] at h3
            simp at h3
            exact ih e.on h3 (by omega)⟩
        rw [hr] at hmem
        cases hmem
  have fin : ∀ (listed : Array Bool) (w : World), listed.size = ops.size → F w → Ext w0 w → Region.ready .any ops listed = [] → Q .normal (frameOf ops vs (fun j => listed.getD j false) a0 ops.size) w := by
    intro listed w hs hF hx hr
    have : frameOf ops vs (fun j => listed.getD j false) a0 ops.size = frameTo ops vs a0 ops.size := frame_congr _ fun j hj => first listed hs hr j hj
    rw [this]
    exact hQ w hx hF
  intro fuel
  induction fuel with
  | zero =>
    intro listed w hs hn hcld hDl hF hx
    have hr : Region.ready .any ops listed = [] := by
      rw [List.eq_nil_iff_forall_not_mem]
      intro i hi
      obtain ⟨h0, o, ho, _⟩ := mem_ready.1 hi
      have : i ∈ (List.range ops.size).filter fun j => !listed.getD j true := List.mem_filter.2 ⟨by simpa using (Array.getElem?_eq_some_iff.1 ho).1, by simp [h0]⟩
      rw [List.eq_nil_of_length_eq_zero (Nat.le_zero.1 hn)] at this
      cases this
    exact ⟨hr, fin listed w hs hF hx hr⟩
  | succ fuel ih =>
    intro listed w hs hn hcld hDl hF hx
    refine ⟨fin listed w hs hF hx, fun i hi => ?_⟩
    obtain ⟨h0, o, ho, hall⟩ := mem_ready.1 hi
    have hi' : i < ops.size := (Array.getElem?_eq_some_iff.1 ho).1
    have hLi : listed.getD i false = false := by
      have hli : i < listed.size := by omega
      simpa [Array.getD_eq_getD_getElem?, hli] using h0
    have hsel : isSelect o = false := by
      have hl' := hl
      unfold looksOk at hl'
      rw [List.all_eq_true] at hl'
      have h1 := hl' i (by simpa using hi')
      rw [ho] at h1
      simp only [Bool.and_eq_true, Bool.not_eq_true'] at h1
      exact h1.1.1
    refine wpOp_fixed (b := frameTo ops vs a0 i) ho hsel ?_ hF (hst i o (by cases hDi : D i with | false => rfl | true => rw [hDl i hDi] at hLi; cases hLi) ho) ?_
    · intro t ht
      rw [frameTo_eq ops.size (by omega)]
      refine frames_agree hd hl ho ?_ ?_ ⟨hLi, by simp⟩ ht
      · intro j hj hw
        obtain ⟨e, he, hb, rfl⟩ := (waits_spec ho).1 hw
        exact ⟨hall e he hb, by simp [hj]⟩
      · intro j hj hw
        refine ⟨?_, by simp; omega⟩
        cases hb : listed.getD j false with
        | false => rfl
        | true => rw [hcld j i hb hw] at hLi; cases hLi
    · intro w' hx'
      have hmore := frame_more hd (vs := vs) (L := fun j => listed.getD j false) (a0 := a0) hLi ops.size hi'
      have hput : (ops[i]?).bind (·.dst) = o.dst := by rw [ho]; rfl
      rw [hput] at hmore
      rw [← hmore]
      have hset : ∀ j, (listed.setIfInBounds i true).getD j false = (j == i || listed.getD j false) := fun j => by
        by_cases e : j = i
        · subst e
          have : j < listed.size := by omega
          simp [Array.getD_eq_getD_getElem?, this]
        · rw [getD_set_ne false (fun h => e h.symm)]
          have : (j == i) = false := by simpa using e
          rw [this, Bool.false_or]
      rw [show frameOf ops vs (fun j => j == i || listed.getD j false) a0 ops.size = frameOf ops vs (fun j => (listed.setIfInBounds i true).getD j false) a0 ops.size from frame_congr _ fun j _ => (hset j).symm]
      refine ih _ _ (by simpa using hs) ?_ ?_ (fun k hk => by rw [hset, hDl k hk, Bool.or_true]) (hcl w w' hF hx') (hx.trans hx')
      · have hlen : ((List.range ops.size).filter fun j => !(listed.setIfInBounds i true).getD j true).length < ((List.range ops.size).filter fun j => !listed.getD j true).length := by
          have hsz : i < listed.size := by omega
          refine (filter_less (p := fun j => !listed.getD j true) (q := fun j => !(listed.setIfInBounds i true).getD j true) (i := i) (by simp only [h0]; rfl) (by simp [Array.getD_eq_getD_getElem?, hsz]) _ ?_).2 (by simpa using hi')
          intro j hj hj'
          by_cases e : i = j
          · subst e
            simp [Array.getD_eq_getD_getElem?, hsz] at hj'
          · rw [getD_set_ne true e] at hj'; exact hj'
        omega
      · intro k j hk hw
        rw [hset] at hk ⊢
        by_cases e : k = i
        · subst e
          obtain ⟨e, he, hb, rfl⟩ := (waits_spec ho).1 hw
          rw [hall e he hb]; simp
        · have : (k == i) = false := by simpa using e
          rw [this, Bool.false_or] at hk
          rw [hcld k j hk hw]; simp

/-- whoever comes behind c in the text waits for it -/
def callOk (ops : Array Oper) (c : Nat) : Bool := fixedOk ops && (List.range ops.size).all fun i => !decide (c < i) || deps ops 6 i c
/-- the walk in the order of the text: n quiet operations, the call, the others -/
def CallWalk (P : Program) (ops : Array Oper) (F : World → Prop) (K : Act → World → Prop) : Nat → List Oper → Act → Prop
  | _, [], _ => False
  | 0, o :: rest, a => Region.wanted o (yielded ops a.tmps) = true ∧ ∀ w, F w → o.wp P a w (fun a' w' => ∃ (v : Value) (F2 : World → Prop), a' = a.put o.dst v ∧ F2 w' ∧ (∀ w w', F2 w → Ext w w' → F2 w') ∧ (∀ w, F2 w → F w) ∧ Fixed P ops F2 (fun a' => ∀ w', F2 w' → K a' w') rest (a.put o.dst v)) (fun _ _ _ => False)
  | n + 1, o :: rest, a => (Region.wanted o (yielded ops a.tmps) = true ∧ ∃ v, StepOK P F o a v ∧ CallWalk P ops F K n rest (a.put o.dst v)) ∨ (Region.wanted o (yielded ops a.tmps) = false ∧ CallWalk P ops F K n rest (a.put o.dst undef))

/-- out of the walk: the values ahead of the call -/
theorem CallWalk.values {K : Act → World → Prop} {a0 : Act} : ∀ (n k : Nat) (rest : List Oper) (us : Nat → Value), (∀ j, rest[j]? = ops[k + j]?) → CallWalk P ops F K n rest (frameTo ops us a0 k) →
    ∃ (vs : Nat → Value) (o : Oper), (∀ j, j < k → vs j = us j) ∧ rest[n]? = some o ∧ CallWalk P ops F K 0 (o :: rest.drop (n + 1)) (frameTo ops vs a0 (k + n)) ∧ ∀ i o', k ≤ i → i < k + n → ops[i]? = some o' →
      (Region.wanted o' (yielded ops (frameTo ops vs a0 i).tmps) = true ∧ StepOK P F o' (frameTo ops vs a0 i) (vs i)) ∨ (Region.wanted o' (yielded ops (frameTo ops vs a0 i).tmps) = false ∧ vs i = undef)
  | n, k, [], us, _, h => by cases n <;> exact h.elim
  | 0, k, o :: rest, us, hr, h => ⟨us, o, fun _ _ => rfl, rfl, h, fun i o' h1 h2 => by omega⟩
  | n + 1, k, o :: rest, us, hr, h => by
    have ho : ops[k]? = some o := by simpa using (hr 0).symm
    have hr' : ∀ j, rest[j]? = ops[k + 1 + j]? := fun j => by
      have := hr (j + 1)
      simpa [Nat.add_assoc, Nat.add_comm 1 j] using this
    have hput : ∀ v, frameTo ops (fun j => if j = k then v else us j) a0 (k + 1) = (frameTo ops us a0 k).put o.dst v := fun v => by
      unfold frameTo
      conv => lhs; unfold frameOf
      rw [if_pos rfl, if_pos rfl, ho, frame_vs (us := us) k (fun i hi => if_neg (by omega))]
      rfl
    have hkeep : ∀ v vs, (∀ j, j < k + 1 → vs j = (if j = k then v else us j)) → frameTo ops vs a0 k = frameTo ops us a0 k := fun v vs hvs => by
      exact frame_vs _ fun j hj => by rw [hvs j (by omega), if_neg (by omega)]
    rcases h with ⟨hw, v, hs, h⟩ | ⟨hw, h⟩
    · obtain ⟨vs, o2, h1, h2, h3, h4⟩ := CallWalk.values n (k + 1) rest (fun j => if j = k then v else us j) hr' (by rw [hput]; exact h)
      refine ⟨vs, o2, fun j hj => by rw [h1 j (by omega), if_neg (by omega)], by simpa using h2, by rw [show k + (n + 1) = k + 1 + n by omega]; simpa using h3, fun i o' hi hi2 ho' => ?_⟩
      by_cases e : i = k
      · subst e
        obtain rfl : o = o' := Option.some.inj (ho.symm.trans ho')
        rw [hkeep v vs h1, h1 i (by omega), if_pos rfl]
        exact .inl ⟨hw, hs⟩
      · exact h4 i o' (by omega) (by omega) ho'
    · obtain ⟨vs, o2, h1, h2, h3, h4⟩ := CallWalk.values n (k + 1) rest (fun j => if j = k then undef else us j) hr' (by rw [hput]; exact h)
      refine ⟨vs, o2, fun j hj => by rw [h1 j (by omega), if_neg (by omega)], by simpa using h2, by rw [show k + (n + 1) = k + 1 + n by omega]; simpa using h3, fun i o' hi hi2 ho' => ?_⟩
      by_cases e : i = k
      · subst e
        obtain rfl : o = o' := Option.some.inj (ho.symm.trans ho')
        rw [hkeep undef vs h1, h1 i (by omega), if_pos rfl]
        exact .inr ⟨hw, rfl⟩
      · exact h4 i o' (by omega) (by omega) ho'

theorem StepOK.less {F2 : World → Prop} {o : Oper} {a : Act} {v : Value} (h : StepOK P F o a v) (hs : ∀ w, F2 w → F w) : StepOK P F2 o a v := by
  rcases h with h | ⟨f, args, h1, h2⟩
  · exact .inl fun w hw => h w (hs w hw)
  · exact .inr ⟨f, args, fun w hw => h1 w (hs w hw), fun w hw => h2 w (hs w hw)⟩

theorem wpAny_call {Q : Exit → Act → World → Prop} {K : Act → World → Prop} {a0 : Act} {vs : Nat → Value} {c : Nat} {oc : Oper} {post : List Oper} (hok : callOk ops c = true) (hcl : ∀ w w', F w → Ext w w' → F w') (hK : ∀ a w, K a w → Q .normal a w)
    (hoc : ops[c]? = some oc) (hpost : ∀ j, post[j]? = ops[c + 1 + j]?) (hplen : c + 1 + post.length = ops.size)
    (hst : ∀ i o, i < c → ops[i]? = some o → (Region.wanted o (yielded ops (frameTo ops vs a0 i).tmps) = true ∧ StepOK P F o (frameTo ops vs a0 i) (vs i)) ∨ (Region.wanted o (yielded ops (frameTo ops vs a0 i).tmps) = false ∧ vs i = undef))
    (hcw : CallWalk P ops F K 0 (oc :: post) (frameTo ops vs a0 c)) :
    ∀ (fuel : Nat) (listed : Array Bool) (w : World), listed.size = ops.size → ((List.range ops.size).filter fun j => !listed.getD j true).length ≤ fuel →
      (∀ i j, listed.getD i false = true → waits ops i j = true → listed.getD j false = true) → listed.getD c false = false → F w →
      wpAny P .any ops Q fuel listed (frameOf ops vs (fun j => listed.getD j false) a0 ops.size) w := by
  simp only [callOk, Bool.and_eq_true] at hok
  obtain ⟨hfx, hdep⟩ := hok
  have hd : dstApart ops = true := by simp only [fixedOk, Bool.and_eq_true] at hfx; exact hfx.1
  have hl : looksOk ops = true := by simp only [fixedOk, Bool.and_eq_true] at hfx; exact hfx.2
  have hcs : c < ops.size := (Array.getElem?_eq_some_iff.1 hoc).1
  have hdep' : ∀ i, i < ops.size → c < i → deps ops 6 i c = true := fun i hi hci => by
    have := List.all_eq_true.1 hdep i (by simpa using hi)
    simpa [hci] using this
  have selOf : ∀ i o, ops[i]? = some o → isSelect o = false := fun i o ho => sel_of hl ho
  intro fuel
  induction fuel with
  | zero =>
    intro listed w hs hn hcld hLc hF
    exfalso
    have : c ∈ (List.range ops.size).filter fun j => !listed.getD j true := List.mem_filter.2 ⟨by simpa using hcs, by
      have hli : c < listed.size := by omega
      have : listed.getD c true = false := by simpa [Array.getD_eq_getD_getElem?, hli] using hLc
      rw [this]; rfl⟩
    rw [List.eq_nil_of_length_eq_zero (Nat.le_zero.1 hn)] at this
    cases this
  | succ fuel ih =>
    intro listed w hs hn hcld hLc hF
    refine ⟨fun hr => ?_, fun i hi => ?_⟩
    · exfalso
      have := all_listed hl hs hr c hcs
      rw [this] at hLc
      cases hLc
    obtain ⟨h0, o, ho, hall⟩ := mem_ready.1 hi
    have hi' : i < ops.size := (Array.getElem?_eq_some_iff.1 ho).1
    have hsi : i < listed.size := by omega
    have hLi : listed.getD i false = false := by simpa [Array.getD_eq_getD_getElem?, hsi] using h0
    have hwl : ∀ j, waits ops i j = true → listed.getD j false = true := fun j hj => by
      obtain ⟨e, he, hb, rfl⟩ := (waits_spec ho).1 hj
      exact hall e he hb
    have hlw : ∀ j, waits ops j i = true → listed.getD j false = false := fun j hj => by
      cases hb : listed.getD j false with
      | false => rfl
      | true => rw [hcld j i hb hj] at hLi; cases hLi
    have hset := set_getD hsi
    have hic : i ≤ c := by
      rcases Nat.lt_or_ge c i with h | h
      · have := deps_closed hcld 6 i c hwl (hdep' i hi' h)
        rw [this] at hLc
        cases hLc
      · exact h
    have hput : (ops[i]?).bind (·.dst) = o.dst := by rw [ho]; rfl
    have hagree : ∀ t ∈ o.looksAt ops, (frameOf ops vs (fun j => listed.getD j false) a0 ops.size).tmps[t]? = (frameTo ops vs a0 i).tmps[t]? := fun t ht => by
      rw [frameTo_eq ops.size (by omega)]
      exact frames_agree hd hl ho (fun j hj hw => ⟨hwl j hw, by simp [hj]⟩) (fun j hj hw => ⟨hlw j hw, by simp; omega⟩) ⟨hLi, by simp⟩ ht
    rcases Nat.lt_or_ge i c with hlt | hge
    · refine wpOp_fixed (b := frameTo ops vs a0 i) ho (selOf i o ho) hagree hF (hst i o hlt ho) fun w' hx' => ?_
      have hmore := frame_more hd (vs := vs) (L := fun j => listed.getD j false) (a0 := a0) hLi ops.size hi'
      rw [hput] at hmore
      rw [← hmore, frame_congr (M := fun j => (listed.setIfInBounds i true).getD j false) ops.size (fun j _ => (hset j).symm)]
      refine ih _ _ (by simpa using hs) (set_count hsi hi' h0 hn) (set_closed hsi ho hall hcld) ?_ (hcl w w' hF hx')
      rw [hset, hLc]
      have : (c == i) = false := by simp; omega
      rw [this]; rfl
    · obtain rfl : i = c := by omega
      obtain rfl : oc = o := Option.some.inj (hoc.symm.trans ho)
      obtain ⟨hwt, hrun⟩ := hcw
      unfold wpOp
      simp only [ho]
      rw [wanted_agree hagree, if_pos hwt]
      have hgo : ∀ (v : Value) (w' : World) (F2 : World → Prop), F2 w' → (∀ w w', F2 w → Ext w w' → F2 w') → (∀ w, F2 w → F w) → Fixed P ops F2 (fun a' => ∀ w', F2 w' → K a' w') post ((frameTo ops vs a0 i).put oc.dst v) →
          wpAny P .any ops Q fuel (listed.setIfInBounds i true) ((frameOf ops vs (fun j => listed.getD j false) a0 ops.size).put oc.dst v) w' := by
        intro v w' F2 hF2 hcl2 hsub hfix
        have hput2 : frameTo ops (fun j => if j = i then v else vs j) a0 (i + 1) = (frameTo ops vs a0 i).put oc.dst v := by
          unfold frameTo
          conv => lhs; unfold frameOf
          rw [if_pos rfl, if_pos rfl, ho, frame_vs (us := vs) i (fun j hj => if_neg (by omega))]
          rfl
        obtain ⟨us, hu1, hu2, hu3⟩ := Fixed.values (a0 := a0) post (i + 1) (fun j => if j = i then v else vs j) hpost hplen (by rw [hput2]; exact hfix)
        have hui : us i = v := by rw [hu1 i (by omega), if_pos rfl]
        have hul : ∀ j, j < i → us j = vs j := fun j hj => by rw [hu1 j (by omega), if_neg (by omega)]
        have hLup : ∀ j, i < j → listed.getD j false = false := fun j hj => by
          cases hb : listed.getD j false with
          | false => rfl
          | true =>
            exfalso
            have hjs : j < ops.size := by
              rcases Nat.lt_or_ge j ops.size with h | h
              · exact h
              · rw [Array.getD_eq_getD_getElem?, Array.getElem?_eq_none (by omega)] at hb; cases hb
            have := deps_closed hcld 6 j i (fun k hk => hcld j k hb hk) (hdep' j hjs hj)
            rw [this] at hLc
            cases hLc
        have hmore := frame_more hd (vs := us) (L := fun j => listed.getD j false) (a0 := a0) hLi ops.size hi'
        rw [hput, hui, frame_vsL (us := vs) (L := fun j => listed.getD j false) (fun j hj => hul j (by
          have hj : listed.getD j false = true := hj
          rcases Nat.lt_trichotomy j i with h | h | h
          · exact h
          · rw [h, hLi] at hj; cases hj
          · rw [hLup j h] at hj; cases hj))] at hmore
        rw [← hmore, frame_congr (M := fun j => (listed.setIfInBounds i true).getD j false) ops.size (fun j _ => (hset j).symm)]
        refine wpAny_fixedD (fun j => j == i) hd hl hcl2 (fun j o' hj ho' => ?_) (fun w2 _ h2 => hK _ _ (hu2 w2 h2)) fuel _ _ (by simpa using hs) (set_count hsi hi' h0 hn) (set_closed hsi ho hall hcld) (fun j hj => by rw [hset, hj, Bool.true_or]) hF2 (Ext.refl _)
        have hji : j ≠ i := by simpa using hj
        rcases Nat.lt_or_ge j i with h | h
        · have e : frameTo ops us a0 j = frameTo ops vs a0 j := frame_vs _ fun k hk => hul k (by omega)
          rw [e, hul j h]
          rcases hst j o' h ho' with ⟨h1, h2⟩ | h2
          · exact .inl ⟨h1, h2.less hsub⟩
          · exact .inr h2
        · exact hu3 j o' (by omega) ho'
      refine .inl (wp_transfer (exec_agree hl ho hagree) (fun _ _ _ h => h.elim) (fun v w' h => ?_) (fun d w' h => ?_) (hrun w hF))
      · obtain ⟨v2, F2, e, h1, h2, h3, h4⟩ := h
        rw [← e] at h4
        exact hgo v w' F2 h1 h2 h3 h4
      · obtain ⟨v2, F2, e, h1, h2, h3, h4⟩ := h
        exfalso
        have := congrArg Act.defers e
        cases hd : oc.dst <;> simp [Act.put, hd] at this

/-- **A drawn region of quiet operations and of one call**: n operations stand ahead of the call. -/
theorem wp_region_call {a : Act} {w : World} {Q : Exit → Act → World → Prop} {id : Nat} {l : List Oper} (n : Nat) (F : World → Prop) (hm : P.follows .mixedOrders = true) (hok : callOk l.toArray n = true)
    (hF : F w) (hcl : ∀ w w', F w → Ext w w' → F w') (h : CallWalk P l.toArray F (fun a w => Q .normal a w) n l a) : (Code.region id l.toArray true).wp P Q a w := by
  obtain ⟨vs, o, _, h2, h3, h4⟩ := CallWalk.values (a0 := a) n 0 l (fun _ => undef) (by simp) h
  rw [Nat.zero_add] at h3 h4
  have hnl : n < l.length := (List.getElem?_eq_some_iff.1 h2).1
  refine wp_region_any hm ?_
  have := wpAny_call (Q := Q) (K := fun a w => Q .normal a w) (a0 := a) (vs := vs) (c := n) (oc := o) (post := l.drop (n + 1)) hok hcl (fun _ _ h => h) (by simpa using h2) (fun j => by simp [List.getElem?_drop]) (by simp; omega)
    (fun i o' hi ho' => h4 i o' (Nat.zero_le _) hi ho') h3 l.toArray.size (Array.replicate l.toArray.size false) w.drew (by simp) (by
      have := List.length_filter_le (fun j => !(Array.replicate l.toArray.size false).getD j true) (List.range l.toArray.size)
      simpa using this) (fun i j hi => by rw [repl_false] at hi; cases hi) (repl_false _ _) (hcl w w.drew hF ((Ext.refl w).drew))
  rw [frame_congr (M := fun _ => false) l.toArray.size (fun j hj => repl_false _ _)] at this
  rw [show frameOf l.toArray vs (fun _ => false) a l.toArray.size = a from by
    generalize l.toArray.size = n
    induction n with
    | zero => rfl
    | succ n ih => unfold frameOf; simpa using ih] at this
  exact this

variable {B : Nat} {w0 : World} {L : List Item} {o : Oper} {rest : List Oper} {a : Act} {K : Act → World → Prop} {n : Nat}
theorem CallWalk.here {l : List Oper} (h : CallWalk P ops F K n l a) : CallWalk P ops F K n l a := h
theorem CallWalk.skip (hw : Region.wanted o (yielded ops a.tmps) = false) (h : CallWalk P ops F K n rest (a.put o.dst undef)) : CallWalk P ops F K (n + 1) (o :: rest) a := .inr ⟨hw, h⟩
theorem CallWalk.val {v : Value} (hw : Region.wanted o (yielded ops a.tmps) = true) (hr : ∀ w, F w → (execOp a.eval o).run P w = .ok (.value v) w) (h : CallWalk P ops F K n rest (a.put o.dst v)) : CallWalk P ops F K (n + 1) (o :: rest) a := .inl ⟨hw, v, .inl hr, h⟩
theorem CallWalk.quiet {v : Value} {f : FuncId} {args : Array Value} (hw : Region.wanted o (yielded ops a.tmps) = true) (hr : ∀ w, F w → (execOp a.eval o).run P w = .ok (.enter f args) w)
    (hc : ∀ w, F w → Calls P f args w fun e w' => e = .returned v ∧ Ext w w') (h : CallWalk P ops F K n rest (a.put o.dst v)) : CallWalk P ops F K (n + 1) (o :: rest) a := .inl ⟨hw, v, .inr ⟨f, args, hr, hc⟩, h⟩
theorem CallWalk.call {f : FuncId} {args : Array Value} (hw : Region.wanted o (yielded ops a.tmps) = true) (hr : ∀ w, Hp B w0 w L → (execOp a.eval o).run P w = .ok (.enter f args) w)
    (hc : ∀ w, Hp B w0 w L → Calls P f args w fun e w' => ∃ (v : Value) (L2 : List Item), e = .returned v ∧ Hp B w0 w' L2 ∧ (∀ w, Hp B w0 w L2 → Hp B w0 w L) ∧ Fixed P ops (fun W => Hp B w0 W L2) (fun a' => ∀ w', Hp B w0 w' L2 → K a' w') rest (a.put o.dst v)) :
    CallWalk P ops (fun W => Hp B w0 W L) K 0 (o :: rest) a := by
  refine ⟨hw, fun w hS => ?_⟩
  unfold Oper.wp
  rw [hr w hS]
  refine (hc w hS).mono fun e w' ⟨v, L2, h1, h2, h3, h4⟩ => ?_
  subst h1
  exact ⟨v, fun W => Hp B w0 W L2, rfl, h2, fun _ _ h hx => h.step hx, h3, h4⟩
theorem wp_region_call_hp {w : World} {Q : Exit → Act → World → Prop} {id : Nat} {l : List Oper} (n : Nat) (hm : P.follows .mixedOrders = true) (hok : callOk l.toArray n = true)
    (hS : Hp B w0 w L) (h : CallWalk P l.toArray (fun W => Hp B w0 W L) (fun a w => Q .normal a w) n l a) : (Code.region id l.toArray true).wp P Q a w :=
  wp_region_call n (fun W => Hp B w0 W L) hm hok hS (fun _ _ h hx => h.step hx) h
end
end Go.Proofs.YtcpllhjhnfmepaaGreatDoor

/- the writer of files: number, text. -/
namespace Go.Proofs.YtcpllhjhnfmepaaGreatDoor
set_option linter.all false
set_option linter.unusedSimpArgs false
set_option linter.unusedVariables false
open Go.RowKit
open Go.Lib (uvarint)
/-- a writer at gw that has written l -/
abbrev wIt (gw : Nat) (A : Option Addr) (n cap : Nat) (l : List UInt8) (L : List Item) : List Item := .row 5 1 A n cap (l.map B8) :: .blk gw [.slice A n cap] 90 :: L
set_option maxRecDepth 100000 in
set_option maxHeartbeats 8000000 in
theorem wnumber_any {B : Nat} {w0 w : World} {L : List Item} {gw : Nat} (A : Option Addr) (n cap : Nat) (l : List UInt8) (u : Nat) (hu : u < 9223372036854775808) (hn : l.length = n) (hl : n ≤ 1000000000000) (hS : Hp B w0 w (wIt gw A n cap l L)) :
    Calls Tryz.prog 35 #[.pointer (some ⟨gw, 0, none⟩), .int .i64 u] w fun e w' => e = .returned (.tuple #[]) ∧ ∃ A' n' cap', Hid ((l ++ uvarint u).length = n') ∧ Hp B w0 w' (wIt gw A' n' cap' (l ++ uvarint u) L) := by
  have Hn := Lib.hid hn
  have HL := Lib.hid (Lib.uvarint_length64 (show u < 18446744073709551616 by omega))
  have hwu : IntKind.u64.wrap (u : Int) = u := by rw [IntKind.wrap_u64]; omega
  clear hn
  ((try clear hF); (first | have hF := And.intro hS.facts (hR.at hS.ext) | have hF := hS.facts); simp only [HFacts, cellFacts, RFacts, cellOnly, and_true, true_and, Nat.zero_add, Nat.reduceAdd] at hF)
  go_enter Tryz.func35, Tryz.ntmps35
  go_wp2_with (first | ((with_reducible first | refine nhLa ?_ | refine nhLs ?_ | refine nhLd ?_ | refine nhCa ?_ | refine nhCs ?_ | refine nhCd ?_ | refine nhPa ?_ | refine nhPs ?_ | refine nhPd ?_ | refine nhKa ?_ | refine nhKs ?_ | refine nhKd ?_); ((try clear hF); clear hS; intro wk hS; (try simp only [List.set_cons_zero, List.set_cons_succ, heap_size, heap_set_size] at hS); ((try clear hF); (first | have hF := And.intro hS.facts (hR.at hS.ext) | have hF := hS.facts); simp only [HFacts, cellFacts, RFacts, cellOnly, and_true, true_and, Nat.zero_add, Nat.reduceAdd] at hF))) | fail)
  go_loopw [4] (fun x wr => ∃ (A : Option Addr) (cap n2 : Nat) (l' : List UInt8) (m : Nat), x = .int .u64 m ∧ m < 9223372036854775808 ∧ Hid (l'.length = n2) ∧ Hid (l' ++ uvarint m = l ++ uvarint u) ∧ Hp B w0 wr (wIt gw A n2 cap l' L)) (fun x _ => (intOf x).toNat)
  case atStart => exact ⟨A, cap, n, l, u, rfl, hu, Hn, Lib.hid rfl, hS⟩
  case round =>
    clear hS hF
    obtain ⟨A, cap, n', l', m, rfl, hm, Hn', Hl, hS⟩ := hrel
    have hb : n' ≤ n + 10 := by
      have h1 := congrArg List.length Hl.out
      simp only [List.length_append] at h1
      have := Lib.uvarint_pos m
      have := HL.out
      have := Hn.out
      have := Hn'.out
      omega
    by_cases hbig : m < 128
    · have hlt : (m : Int) < 128 := by omega
      have hw : IntKind.u8.wrap (m : Int) = m := by simp [IntKind.wrap, IntKind.bits, IntKind.signed]; omega
      ((try clear hF); (first | have hF := And.intro hS.facts (hR.at hS.ext) | have hF := hS.facts); simp only [HFacts, cellFacts, RFacts, cellOnly, and_true, true_and, Nat.zero_add, Nat.reduceAdd] at hF)
      go_wp2_with (first | ((with_reducible first | refine nhLa ?_ | refine nhLs ?_ | refine nhLd ?_ | refine nhCa ?_ | refine nhCs ?_ | refine nhCd ?_ | refine nhPa ?_ | refine nhPs ?_ | refine nhPd ?_ | refine nhKa ?_ | refine nhKs ?_ | refine nhKd ?_); ((try clear hF); clear hS; intro wk hS; (try simp only [List.set_cons_zero, List.set_cons_succ, heap_size, heap_set_size] at hS); ((try clear hF); (first | have hF := And.intro hS.facts (hR.at hS.ext) | have hF := hS.facts); simp only [HFacts, cellFacts, RFacts, cellOnly, and_true, true_and, Nat.zero_add, Nat.reduceAdd] at hF))) | (at_builtin; refine wpList_push_hp Tryz.elem_bytes rfl (.tmp 28) (.tmp 31) rfl (hS.second 0 rfl) rfl rfl rfl (by simp [Value.oneCell']) (by omega) (by omega) ?_; clear hS; intro Ak capk wk hS; (try simp only [List.eraseIdx_cons_zero, List.eraseIdx_cons_succ, List.set_cons_zero, List.set_cons_succ] at hS); ((try clear hF); (first | have hF := And.intro hS.facts (hR.at hS.ext) | have hF := hS.facts); simp only [HFacts, cellFacts, RFacts, cellOnly, and_true, true_and, Nat.zero_add, Nat.reduceAdd] at hF)))
      go_end0
      have e : (l' ++ [UInt8.ofNat m]).map B8 = l'.map B8 ++ [.int .u8 m] := by rw [List.map_append, List.map_cons, List.map_nil, b8_of m (by omega)]
      refine ⟨rfl, Ak, n' + 1, capk, Lib.hid ?_, ?_⟩
      · rw [← Hl.out, Lib.uvarint_small hbig, List.length_append, Hn'.out]
        rfl
      · rw [← Hl.out, Lib.uvarint_small hbig]
        unfold wIt
        rw [e]
        exact hS
    · have hge : (128 : Int) ≤ m := by omega
      have hw := and127 m (show m < 18446744073709551616 by omega)
      have hw2 := or128 m
      have HB := Lib.hid hbig
      have HV' := Lib.hid (show Value.int .u8 ((m : Int) % 128 + 128) = B8 (UInt8.ofNat (m % 128 + 128)) by rw [← b8_of _ (by omega)]; simp)
      clear hbig
      ((try clear hF); (first | have hF := And.intro hS.facts (hR.at hS.ext) | have hF := hS.facts); simp only [HFacts, cellFacts, RFacts, cellOnly, and_true, true_and, Nat.zero_add, Nat.reduceAdd] at hF)
      go_wp2_with (first | ((with_reducible first | refine nhLa ?_ | refine nhLs ?_ | refine nhLd ?_ | refine nhCa ?_ | refine nhCs ?_ | refine nhCd ?_ | refine nhPa ?_ | refine nhPs ?_ | refine nhPd ?_ | refine nhKa ?_ | refine nhKs ?_ | refine nhKd ?_); ((try clear hF); clear hS; intro wk hS; (try simp only [List.set_cons_zero, List.set_cons_succ, heap_size, heap_set_size] at hS); ((try clear hF); (first | have hF := And.intro hS.facts (hR.at hS.ext) | have hF := hS.facts); simp only [HFacts, cellFacts, RFacts, cellOnly, and_true, true_and, Nat.zero_add, Nat.reduceAdd] at hF))) | (at_builtin; refine wpList_push_hp Tryz.elem_bytes rfl (.tmp 15) (.tmp 20) rfl (hS.second 0 rfl) rfl rfl rfl (by simp [Value.oneCell']) (by omega) (by omega) ?_; clear hS; intro Ak capk wk hS; (try simp only [List.eraseIdx_cons_zero, List.eraseIdx_cons_succ, List.set_cons_zero, List.set_cons_succ] at hS); ((try clear hF); (first | have hF := And.intro hS.facts (hR.at hS.ext) | have hF := hS.facts); simp only [HFacts, cellFacts, RFacts, cellOnly, and_true, true_and, Nat.zero_add, Nat.reduceAdd] at hF)))
      go_roundw
      case rel =>
        refine ⟨Ak, capk, n' + 1, l' ++ [UInt8.ofNat (m % 128 + 128)], m / 128, by go_num, by omega, Lib.hid (by rw [List.length_append, Hn'.out]; rfl), Lib.hid ?_, ?_⟩
        · rw [← Hl.out, Lib.uvarint_big (x := m) (by have := HB.out; omega)]; simp
        · unfold wIt
          rw [List.map_append, List.map_cons, List.map_nil, ← HV'.out]
          exact hS
      case measure => simp [intOf]; omega
set_option maxRecDepth 100000 in
set_option maxHeartbeats 8000000 in
theorem wtext_any {B : Nat} {w0 w : World} {L : List Item} {gw : Nat} (A : Option Addr) (n cap : Nat) (l : List UInt8) (s : ByteArray) (hs : s.size ≤ 1000000000) (hn : l.length = n) (hl : n ≤ 100000000000) (hS : Hp B w0 w (wIt gw A n cap l L)) :
    Calls Tryz.prog 36 #[.pointer (some ⟨gw, 0, none⟩), .string s] w fun e w' => e = .returned (.tuple #[]) ∧ ∃ A' n' cap', Hid ((l ++ (uvarint s.size ++ s.data.toList)).length = n') ∧ Hp B w0 w' (wIt gw A' n' cap' (l ++ (uvarint s.size ++ s.data.toList)) L) := by
  have HN := Lib.hid (fun (W : World) (hW : Hp B w0 W (wIt gw A n cap l L)) => wnumber_any A n cap l s.size (by omega) hn (by omega) hW)
  have HL := Lib.hid (Lib.uvarint_length64 (show s.size < 18446744073709551616 by omega))
  have Hn := Lib.hid hn
  clear hn
  ((try clear hF); (first | have hF := And.intro hS.facts (hR.at hS.ext) | have hF := hS.facts); simp only [HFacts, cellFacts, RFacts, cellOnly, and_true, true_and, Nat.zero_add, Nat.reduceAdd] at hF)
  go_enter Tryz.func36, Tryz.ntmps36
  go_wp2_with (first | ((with_reducible first | refine nhLa ?_ | refine nhLs ?_ | refine nhLd ?_ | refine nhCa ?_ | refine nhCs ?_ | refine nhCd ?_ | refine nhPa ?_ | refine nhPs ?_ | refine nhPd ?_ | refine nhKa ?_ | refine nhKs ?_ | refine nhKd ?_); ((try clear hF); clear hS; intro wk hS; (try simp only [List.set_cons_zero, List.set_cons_succ, heap_size, heap_set_size] at hS); ((try clear hF); (first | have hF := And.intro hS.facts (hR.at hS.ext) | have hF := hS.facts); simp only [HFacts, cellFacts, RFacts, cellOnly, and_true, true_and, Nat.zero_add, Nat.reduceAdd] at hF))) | (go_at_call 35; (with_reducible refine Calls.mono (HN.out _ hS) ?_); clear hS; rintro e wk ⟨rfl, A2, n2, c2, H2, hS⟩; (have hb2 : n2 ≤ n + 10 := by have h1 := H2.out; rw [List.length_append] at h1; have := HL.out; have := Hn.out; omega); ((try clear hF); (first | have hF := And.intro hS.facts (hR.at hS.ext) | have hF := hS.facts); simp only [HFacts, cellFacts, RFacts, cellOnly, and_true, true_and, Nat.zero_add, Nat.reduceAdd] at hF)) | (at_builtin; refine wpList_append_str_hp Tryz.elem_bytes (by kernel_rfl) Tryz.underlying9 rfl (.tmp 12) (.tmp 13) rfl hS rfl s rfl (by omega) ?_; clear hS; intro A3 c3 wk hS; ((try clear hF); (first | have hF := And.intro hS.facts (hR.at hS.ext) | have hF := hS.facts); simp only [HFacts, cellFacts, RFacts, cellOnly, and_true, true_and, Nat.zero_add, Nat.reduceAdd] at hF)))
  go_end0
  have e : (l ++ (uvarint s.size ++ s.data.toList)).map B8 = (l ++ uvarint s.size).map B8 ++ Lib.strCells s := by
    rw [← List.append_assoc, List.map_append]
    rfl
  refine ⟨rfl, A3, n2 + s.size, c3, Lib.hid ?_, ?_⟩
  · rw [← List.append_assoc, List.length_append, H2.out]
    rfl
  · unfold wIt
    rw [e]
    exact hS
end Go.Proofs.YtcpllhjhnfmepaaGreatDoor

/- In a round of a range over a function, and in an iterator: regions and appends under Hp. For any program. -/
namespace Go.Proofs.YtcpllhjhnfmepaaGreatDoor
set_option linter.all false
open Go.RowKit
attribute [local go_sem] Oper.semAt_some
/-- a fence that lets all through: calls go as everywhere -/
structure Open (F : Fence) : Prop where
  fn : ∀ f, F.fn f
  depth : F.depth = none
  calls : ∀ {n : Nat} {P : Program} {f : FuncId} {args : Array Value} {w : World} {R : Ending → World → Prop}, Calls P f args w R → CallsIn F n P f args w R
  rows : ∀ {n : Nat} {P : Program} {row : String} {args : Array Value} {w : World} {R : Value → World → Prop}, Rows P row args w R → RowsIn F n P row args w R
theorem open_wide : Open Fence.wide where
  fn := fun _ => trivial
  depth := rfl
  calls := fun h => callsIn_wide.2 h
  rows := fun h c cs _ => let ⟨v, w', r, s⟩ := h c cs; ⟨v, w', r, stepsIn_wide.2 s⟩
theorem Open.inRound {F : Fence} (h : Open F) (l : Nat) : Open (F.inRound l) where
  fn := h.fn
  depth := h.depth
  calls := fun k => CallsIn.inRound l (h.calls k)
  rows := fun k => h.rows (F := F) k
section
variable {F : Fence} {n : Nat} {P : Program} {ops : Array Oper} {B : Nat} {w0 : World} {L : List Item}
def noDefer (o : Oper) : Bool := match o.op with | .defer _ => false | _ => true
theorem operIn_of (hF : Open F) {o : Oper} (hnd : noDefer o = true) {a : Act} {w : World} {K K' : Act → World → Prop} {Q Q' : Exit → Act → World → Prop} (hK : ∀ a w, K a w → K' a w) (hQ : ∀ e a w, Q e a w → e = .normal) (h : o.wp P a w K Q) : o.wpIn F n P a w K' Q' := by
  have hs : o.semAt F.round a.eval = execOp a.eval o := by
    refine Oper.semAt_eq _ _ _ fun c e => ?_
    unfold noDefer at hnd
    rw [e] at hnd
    cases hnd
  refine ⟨fun f _ => hF.fn f, ?_⟩
  rw [hs]
  unfold Oper.wp at h
  generalize (execOp a.eval o).run P w = r at *
  cases r with
  | ok x w' =>
    cases x <;> simp only [Oper.upon, Oper.uponIn] at h ⊢
    case value => exact hK _ _ h
    case skip => exact hK _ _ h
    case defer => exact hK _ _ h
    case enter => exact ⟨fun hd => (by rw [hF.depth] at hd; cases hd), hF.calls (h.mono fun e w'' he => by
      cases e with
      | returned v => exact hK _ _ he
      | panicked chain => exact absurd (hQ _ _ _ he) (by simp)
      | outgrown => obtain ⟨a2, w2, h2⟩ := he; exact absurd (hQ _ _ _ h2) (by simp))⟩
    case row => exact ⟨fun hd => (by rw [hF.depth] at hd; cases hd), hF.rows (fun c cs => let ⟨v, w2, r, s⟩ := h c cs; ⟨v, w2, hK _ _ r, s⟩)⟩
  | halt x w' =>
    cases x <;> simp only [Oper.upon, Oper.uponIn] at h ⊢
    case panic => exact absurd (hQ _ _ _ h) (by simp)
theorem anyIn_of (hF : Open F) {Q : Exit → Act → World → Prop} (hnd : ops.all noDefer = true) : ∀ (fuel : Nat) (listed : Array Bool) (a : Act) (w : World), wpAny P .any ops (fun e a w => e = .normal ∧ Q e a w) fuel listed a w → wpAnyIn F n P .any ops Q fuel listed a w
  | 0, listed, a, w, h => ⟨h.1, h.2.2⟩
  | fuel + 1, listed, a, w, h => by
    refine ⟨fun hr => (h.1 hr).2, fun i hi => ?_⟩
    have hw := h.2 i hi
    unfold wpOp at hw
    unfold wpOpIn
    cases ho : ops[i]? with
    | none => rw [ho] at hw; exact anyIn_of hF hnd fuel _ _ _ hw
    | some o =>
      rw [ho] at hw
      simp only at hw ⊢
      have hd : noDefer o = true := by
        have := Array.all_eq_true_iff_forall_mem.1 hnd o (Array.mem_of_getElem? ho)
        exact this
      split
      · rename_i hwt
        rw [if_pos hwt] at hw
        rcases hw with hw | hw
        · exact operIn_of hF hd (fun a w h => anyIn_of hF hnd fuel _ a w h) (fun e a w h => h.1) hw
        · obtain ⟨_, a2, w2, h2, _⟩ := hw
          cases h2
      · rename_i hwt
        rw [if_neg hwt] at hw
        exact ⟨fun f _ => hF.fn f, anyIn_of hF hnd fuel _ _ _ hw⟩
theorem wpIn_region_braidz_hp (hF : Open F) {a : Act} {w : World} {Q : Exit → Act → World → Prop} {id : Nat} {l : List Oper} (ms : List Mark) (z : Nat) (LF : List Item) (hm : P.follows .mixedOrders = true) (hnd : l.toArray.all noDefer = true) (hlen : l.length = ms.length) (hok : braidZ l.toArray (mkOf ms) z = true)
    (hS : Hp B w0 w L) (hLF : ∀ w, Hp B w0 w L → Hp B w0 w LF)
    (h : Walk P l.toArray (fun W => Hp B w0 W LF) (fun a' => BraidZ P l.toArray (fun W => Hp B w0 W LF) (fun a w => Q .normal a w) z (braidsOf ms).length (braidsOf ms) a' (fun W => Hp B w0 W L)) ms l a) : (Code.region id l.toArray true).wpIn F n P Q a w :=
  wpIn_region_any hm (anyIn_of hF hnd _ _ _ _ (any_region_braidz (Q := fun e a w => e = .normal ∧ Q e a w) ms z (fun W => Hp B w0 W LF) (fun _ _ h => ⟨rfl, h⟩) hlen hok hS (fun _ _ h hx => h.step hx) hLF h))

theorem wpIn_region_fixed (hF : Open F) {G : World → Prop} {Q : Exit → Act → World → Prop} {id : Nat} {l : List Oper} {a : Act} {w : World} (hm : P.follows .mixedOrders = true) (hnd : l.toArray.all noDefer = true) (hok : fixedOk l.toArray = true)
    (hcl : ∀ w w', G w → Ext w w' → G w') (hG : G w) (h : Fixed P l.toArray G (fun a' => ∀ w', Ext w w' → G w' → Q .normal a' w') l a) : (Code.region id l.toArray true).wpIn F n P Q a w := by
  have hd : dstApart l.toArray = true := by simp only [fixedOk, Bool.and_eq_true] at hok; exact hok.1
  have hl : looksOk l.toArray = true := by simp only [fixedOk, Bool.and_eq_true] at hok; exact hok.2
  obtain ⟨vs, _, hK, hst⟩ := Fixed.values (a0 := a) l 0 (fun _ => undef) (by simp) (by simp) h
  refine wpIn_region_any hm (anyIn_of hF hnd _ _ _ _ ?_)
  have := wpAny_fixed (Q := fun e a w => e = .normal ∧ Q e a w) hd hl hcl (fun i o ho => hst i o (Nat.zero_le _) ho) (fun w' h1 h2 => ⟨rfl, hK w' h1 h2⟩) l.toArray.size (Array.replicate l.toArray.size false) w.drew (by simp) (by
    have := List.length_filter_le (fun j => !(Array.replicate l.toArray.size false).getD j true) (List.range l.toArray.size)
    simpa using this) (fun i j hi => by rw [repl_false] at hi; cases hi) (hcl w w.drew hG ((Ext.refl w).drew)) ((Ext.refl w).drew)
  rw [frame_congr (M := fun _ => false) l.toArray.size (fun j hj => repl_false _ _)] at this
  rw [show frameOf l.toArray vs (fun _ => false) a l.toArray.size = a from by
    generalize l.toArray.size = n
    induction n with
    | zero => rfl
    | succ n ih => unfold frameOf; simpa using ih] at this
  exact this
theorem niLa {W : World} {o : Obj} {Q : Exit → Act → World → Prop} {l : List Oper} {a : Act} (k : ∀ w, Hp B w0 w L → wpListIn F n P ops Q l a w) (h : Hp B w0 (W.alloc o) L := by (repeat (first | with_reducible exact hS | with_reducible apply Hp.drew | with_reducible apply Hp.alloc | with_reducible apply Hp.put | with_reducible apply atS | with_reducible exact at0 | with_reducible exact at1 | with_reducible exact at2 | with_reducible exact at3 | with_reducible exact at4 | with_reducible exact at5))) : wpListIn F n P ops Q l a (W.alloc o) := k _ h
theorem niLs {W : World} {p : Addr} {u : Value} {Q : Exit → Act → World → Prop} {l : List Oper} {a : Act} (k : ∀ w, Hp B w0 w L → wpListIn F n P ops Q l a w) (h : Hp B w0 (W.setCell p u) L := by (repeat (first | with_reducible exact hS | with_reducible apply Hp.drew | with_reducible apply Hp.alloc | with_reducible apply Hp.put | with_reducible apply atS | with_reducible exact at0 | with_reducible exact at1 | with_reducible exact at2 | with_reducible exact at3 | with_reducible exact at4 | with_reducible exact at5))) : wpListIn F n P ops Q l a (W.setCell p u) := k _ h
theorem niLd {W : World} {Q : Exit → Act → World → Prop} {l : List Oper} {a : Act} (k : ∀ w, Hp B w0 w L → wpListIn F n P ops Q l a w) (h : Hp B w0 W.drew L := by (repeat (first | with_reducible exact hS | with_reducible apply Hp.drew | with_reducible apply Hp.alloc | with_reducible apply Hp.put | with_reducible apply atS | with_reducible exact at0 | with_reducible exact at1 | with_reducible exact at2 | with_reducible exact at3 | with_reducible exact at4 | with_reducible exact at5))) : wpListIn F n P ops Q l a W.drew := k _ h
theorem niCa {W : World} {o : Obj} {c : Code} {Q : Exit → Act → World → Prop} {a : Act} (k : ∀ w, Hp B w0 w L → Code.wpIn F n P c Q a w) (h : Hp B w0 (W.alloc o) L := by (repeat (first | with_reducible exact hS | with_reducible apply Hp.drew | with_reducible apply Hp.alloc | with_reducible apply Hp.put | with_reducible apply atS | with_reducible exact at0 | with_reducible exact at1 | with_reducible exact at2 | with_reducible exact at3 | with_reducible exact at4 | with_reducible exact at5))) : Code.wpIn F n P c Q a (W.alloc o) := k _ h
theorem niCs {W : World} {p : Addr} {u : Value} {c : Code} {Q : Exit → Act → World → Prop} {a : Act} (k : ∀ w, Hp B w0 w L → Code.wpIn F n P c Q a w) (h : Hp B w0 (W.setCell p u) L := by (repeat (first | with_reducible exact hS | with_reducible apply Hp.drew | with_reducible apply Hp.alloc | with_reducible apply Hp.put | with_reducible apply atS | with_reducible exact at0 | with_reducible exact at1 | with_reducible exact at2 | with_reducible exact at3 | with_reducible exact at4 | with_reducible exact at5))) : Code.wpIn F n P c Q a (W.setCell p u) := k _ h
theorem niCd {W : World} {c : Code} {Q : Exit → Act → World → Prop} {a : Act} (k : ∀ w, Hp B w0 w L → Code.wpIn F n P c Q a w) (h : Hp B w0 W.drew L := by (repeat (first | with_reducible exact hS | with_reducible apply Hp.drew | with_reducible apply Hp.alloc | with_reducible apply Hp.put | with_reducible apply atS | with_reducible exact at0 | with_reducible exact at1 | with_reducible exact at2 | with_reducible exact at3 | with_reducible exact at4 | with_reducible exact at5))) : Code.wpIn F n P c Q a W.drew := k _ h
theorem niPa {W : World} {o : Obj} {fn : Func} {R : Ending → World → Prop} {x : Exit} {a : Act} (k : ∀ w, Hp B w0 w L → bodyPostM F n P fn R x a w) (h : Hp B w0 (W.alloc o) L := by (repeat (first | with_reducible exact hS | with_reducible apply Hp.drew | with_reducible apply Hp.alloc | with_reducible apply Hp.put | with_reducible apply atS | with_reducible exact at0 | with_reducible exact at1 | with_reducible exact at2 | with_reducible exact at3 | with_reducible exact at4 | with_reducible exact at5))) : bodyPostM F n P fn R x a (W.alloc o) := k _ h
theorem niPs {W : World} {p : Addr} {u : Value} {fn : Func} {R : Ending → World → Prop} {x : Exit} {a : Act} (k : ∀ w, Hp B w0 w L → bodyPostM F n P fn R x a w) (h : Hp B w0 (W.setCell p u) L := by (repeat (first | with_reducible exact hS | with_reducible apply Hp.drew | with_reducible apply Hp.alloc | with_reducible apply Hp.put | with_reducible apply atS | with_reducible exact at0 | with_reducible exact at1 | with_reducible exact at2 | with_reducible exact at3 | with_reducible exact at4 | with_reducible exact at5))) : bodyPostM F n P fn R x a (W.setCell p u) := k _ h
theorem niPd {W : World} {fn : Func} {R : Ending → World → Prop} {x : Exit} {a : Act} (k : ∀ w, Hp B w0 w L → bodyPostM F n P fn R x a w) (h : Hp B w0 W.drew L := by (repeat (first | with_reducible exact hS | with_reducible apply Hp.drew | with_reducible apply Hp.alloc | with_reducible apply Hp.put | with_reducible apply atS | with_reducible exact at0 | with_reducible exact at1 | with_reducible exact at2 | with_reducible exact at3 | with_reducible exact at4 | with_reducible exact at5))) : bodyPostM F n P fn R x a W.drew := k _ h
theorem niKa {W : World} {o : Obj} {f : FuncId} {R : Ending → World → Prop} {args : Array Value} (k : ∀ w, Hp B w0 w L → CallsIn F n P f args w R) (h : Hp B w0 (W.alloc o) L := by (repeat (first | with_reducible exact hS | with_reducible apply Hp.drew | with_reducible apply Hp.alloc | with_reducible apply Hp.put | with_reducible apply atS | with_reducible exact at0 | with_reducible exact at1 | with_reducible exact at2 | with_reducible exact at3 | with_reducible exact at4 | with_reducible exact at5))) : CallsIn F n P f args (W.alloc o) R := k _ h
theorem niKs {W : World} {p : Addr} {u : Value} {f : FuncId} {R : Ending → World → Prop} {args : Array Value} (k : ∀ w, Hp B w0 w L → CallsIn F n P f args w R) (h : Hp B w0 (W.setCell p u) L := by (repeat (first | with_reducible exact hS | with_reducible apply Hp.drew | with_reducible apply Hp.alloc | with_reducible apply Hp.put | with_reducible apply atS | with_reducible exact at0 | with_reducible exact at1 | with_reducible exact at2 | with_reducible exact at3 | with_reducible exact at4 | with_reducible exact at5))) : CallsIn F n P f args (W.setCell p u) R := k _ h
theorem niKd {W : World} {f : FuncId} {R : Ending → World → Prop} {args : Array Value} (k : ∀ w, Hp B w0 w L → CallsIn F n P f args w R) (h : Hp B w0 W.drew L := by (repeat (first | with_reducible exact hS | with_reducible apply Hp.drew | with_reducible apply Hp.alloc | with_reducible apply Hp.put | with_reducible apply atS | with_reducible exact at0 | with_reducible exact at1 | with_reducible exact at2 | with_reducible exact at3 | with_reducible exact at4 | with_reducible exact at5))) : CallsIn F n P f args W.drew R := k _ h
/-- append of the one element that lies in the block at the head -/
theorem wpListIn_push_hp {w : World} (hF : Open F) {t e : TypeId} {size bytes k c cap S : Nat} {A : Option Addr} {xs news : List Value} (hE : Elem P t e size bytes) {rest : List Oper} {o : Oper} {a : Act} {Q : Exit → Act → World → Prop} (hgd : o.guard = none) (s x : Operand)
    (ho : o.op = .call { callee := .builtin .append, args := #[s, x], argTypes := #[t, t] }) (h : Hp B w0 w (.blk S news e :: .row e size A k cap xs :: L)) (hs : a.eval s = .slice A k cap) (hx : a.eval x = .slice (some ⟨S, 0, none⟩) 1 c) (hl : news.length = size)
    (h1 : ∀ u ∈ news, u.oneCell' = true) (hn : (k + 1) * bytes ≤ 140737488355328) (hm : k + 1 ≤ 140737488355328)
    (hk : ∀ A' cap' w', Hp B w0 w' (.row e size A' (k + 1) cap' (xs ++ news) :: L) → wpListIn F n P ops Q rest (a.put o.dst (.slice A' (k + 1 : Nat) cap')) w') : wpListIn F n P ops Q (o :: rest) a w := by
  refine wpListIn_plain hgd fun K hK => ?_
  refine operIn_of hF (by unfold noDefer; rw [ho]) (K := K) (Q := fun _ _ _ => False) (fun _ _ h => h) (fun _ _ _ h => h.elim) ?_
  obtain ⟨A', cap', w', hr, h2⟩ := run_append_hp (P := P) (c := c) (ty := o.type) hE h.tail ⟨S, 0, none⟩ (m := 1) (news := news) (by simpa using hl) (fun j u hu => World.news_of_block h.head.2 j u (by simpa using hu)) h1 hn hm
  unfold Oper.wp execOp
  simp only [ho, resolve, invoke, builtin, Sem.run_bind, Sem.run_pure, Result.andThen_ok, List.map_toArray, List.map_cons, List.map_nil, hs, hx, hr]
  exact hK _ _ (hk A' cap' w' h2)
/-- what is no cells, from B1 on, as things -/
theorem Hp.others {w : World} (B1 : Nat) (hB : B ≤ B1) (h : Hp B w0 w L) (hL : ∀ x ∈ L, ∀ g, x.block = some g → ∃ o, w.heap[g]? = some o ∧ o.isCells = true) :
    ∃ K : List Item, Hp B w0 w (L ++ K) ∧ ∀ (w' : World) (M : List Item), Hp B w0 w' M → w.heap.size ≤ w'.heap.size → (∀ x ∈ K, x ∈ M) → KeepsFrom B1 w w' := by
  let K : List Item := (List.range w.heap.size).filterMap fun k => if B1 ≤ k then (match w.heap[k]? with | some o => if o.isCells then none else some (.ob k o) | none => none) else none
  have hmem : ∀ x ∈ K, ∃ k o, x = .ob k o ∧ B1 ≤ k ∧ w.heap[k]? = some o ∧ o.isCells = false := fun x hx => by
    obtain ⟨k, _, hk⟩ := List.mem_filterMap.1 hx
    split at hk
    · rename_i hb
      split at hk
      · rename_i o ho
        split at hk
        · cases hk
        · rename_i hc
          exact ⟨k, o, (Option.some.inj hk).symm, hb, ho, by simpa using hc⟩
      · cases hk
    · cases hk
  refine ⟨K, ⟨h.below, h.base, List.pairwise_append.2 ⟨h.apart, ?_, ?_⟩, ?_⟩, ?_⟩
  · refine List.Pairwise.filterMap _ (R := fun a b => a ≠ b) ?_ (List.nodup_range)
    intro a b hab x hx y hy
    right
    have e1 : x.block = some a := by
      split at hx
      · split at hx
        · split at hx
          · cases hx
          · cases hx; rfl
        · cases hx
      · cases hx
    have e2 : y.block = some b := by
      split at hy
      · split at hy
        · split at hy
          · cases hy
          · cases hy; rfl
        · cases hy
      · cases hy
    rw [e1, e2]
    simpa using hab
  · intro x hx y hy
    obtain ⟨k, o, rfl, _, ho, hc⟩ := hmem y hy
    cases hb : x.block with
    | none => exact .inl hb
    | some g =>
      right
      rw [hb]
      intro e
      obtain ⟨o2, ho2, hc2⟩ := hL x hx g hb
      have : g = k := by simpa [Item.block] using e
      subst this
      rw [ho] at ho2
      cases ho2
      rw [hc] at hc2
      cases hc2
  · intro x hx
    rcases List.mem_append.1 hx with hx | hx
    · exact h.own x hx
    · obtain ⟨k, o, rfl, hk, ho, _⟩ := hmem x hx
      exact ⟨Nat.le_trans hB hk, ho⟩
  · intro w' M hM hsz hK
    refine ⟨hsz, fun k o hk ho hc => ?_⟩
    have hx : Item.ob k o ∈ K := by
      refine List.mem_filterMap.2 ⟨k, by simpa using (Array.getElem?_eq_some_iff.1 ho).1, ?_⟩
      simp only [if_pos hk, ho, hc]
      rfl
    exact (hM.own _ (hK _ hx)).2
end
end Go.Proofs.YtcpllhjhnfmepaaGreatDoor

/- api.Tell. -/
namespace Go.Proofs.YtcpllhjhnfmepaaGreatDoor
set_option linter.all false
set_option linter.unusedSimpArgs false
set_option linter.unusedVariables false
open Go.RowKit
/-- the type of errors, in the library's variable -/
def ErrAt (w : World) : Prop := w.cell? ⟨1, 0, none⟩ = some (.iface 186 (.agg #[.pointer (some ⟨6, 31, none⟩)]))
theorem ErrAt.ext {w w' : World} (h : ErrAt w) (hx : Ext w w') : ErrAt w' := hx.keeps h
theorem as_hp {B : Nat} {w0 w : World} {L : List Item} (e : Int) (g : Nat) (he : ErrAt w) (hS : Hp B w0 w (.blk g [.int .i64 0] 86 :: L)) :
    Calls Tryz.prog 67 #[.iface 86 (.int .i64 e), .iface 133 (.pointer (some ⟨g, 0, none⟩))] w fun ev w' => ev = .returned (.bool true) ∧ Hp B w0 w' (.blk g [.int .i64 e] 86 :: L) := by
  have hF := hS.facts
  simp only [HFacts, cellFacts, RFacts, cellOnly, and_true, true_and, Nat.zero_add, Nat.reduceAdd] at hF
  refine (as_hit e ⟨g, 0, none⟩ _ w he hF.1.1 hF.1.2).mono fun ev w' ⟨h1, h2⟩ => ⟨h1, ?_⟩
  rw [h2]
  exact ((((hS.old _).old _).old _).old _).put0 0 (.int .i64 e)
set_option maxRecDepth 100000 in
set_option maxHeartbeats 8000000 in
theorem tell_any (e : Int) (w : World) (he : ErrAt w) :
    Calls Tryz.prog 39 #[.iface 86 (.int .i64 e)] w fun ev w' => ev = .returned (.int .i64 e) ∧ Ext w w' := by
  have hS := Hp.init w
  have hR := Reads.nil w
  have HA := Lib.hid (fun (W : World) hx (L : List Item) g hS => as_hp (w0 := w) (w := W) (B := w.heap.size) (L := L) e g (he.ext (w' := W) hx) hS)
  go_enter Tryz.func39, Tryz.ntmps39
  go_wp2_with (first | ((with_reducible first | refine nhLa ?_ | refine nhLs ?_ | refine nhLd ?_ | refine nhCa ?_ | refine nhCs ?_ | refine nhCd ?_ | refine nhPa ?_ | refine nhPs ?_ | refine nhPd ?_ | refine nhKa ?_ | refine nhKs ?_ | refine nhKd ?_); ((try clear hF); clear hS; intro wk hS; (try simp only [List.set_cons_zero, List.set_cons_succ, heap_size, heap_set_size] at hS); ((try clear hF); (first | have hF := And.intro hS.facts (hR.at hS.ext) | have hF := hS.facts); simp only [HFacts, cellFacts, RFacts, cellOnly, and_true, true_and, Nat.zero_add, Nat.reduceAdd] at hF))) | (go_at_call 67; (with_reducible refine Calls.mono (HA.out _ hS.ext _ _ hS) ?_); clear hS; rintro ev wk ⟨rfl, hS⟩; ((try clear hF); (first | have hF := And.intro hS.facts (hR.at hS.ext) | have hF := hS.facts); simp only [HFacts, cellFacts, RFacts, cellOnly, and_true, true_and, Nat.zero_add, Nat.reduceAdd] at hF)))
  go_ret
  exact ⟨rfl, hS.ext⟩
end Go.Proofs.YtcpllhjhnfmepaaGreatDoor
