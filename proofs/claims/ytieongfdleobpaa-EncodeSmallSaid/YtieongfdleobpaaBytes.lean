/- Bytes that a call builds; numbers written seven bits a byte: encode.number, signed, one. -/
import Derived.Test.YtieongfdleobpaaHpReg
import Derived.Test.YtieongfdleobpaaVals
import Derived.Lib.VarintBits
import Derived.Lib.Varint
import Derived.Lib.Zigzag
namespace Go.Proofs.Ytieongfdleobpaa
set_option linter.unusedSimpArgs false
set_option linter.unusedVariables false
open Go.RowKit
open Go.Lib (uvarint zigzag)
def B8 (c : UInt8) : Value := .int .u8 (c.toNat : Int)
theorem Try.elem_bytes : Elem Try.prog 70 5 1 1 := by
  obtain ⟨i0, hi0, hz0, hz1, hz2⟩ := info_parts (show (Try.prog.info? 5).map (fun i => (i.zero, i.size, i.bytes)) = some (some (.int .u8 0), 1, 1) by kernel_rfl)
  exact ⟨Try.underlying70, ⟨i0, _, hi0, hz0, hz1, hz2, rfl⟩, by omega⟩
theorem Try.zero_byte : (Try.prog.info? 5).bind (·.zero) = some (.int .u8 0) := by kernel_rfl
/-- a slice of bytes that is built -/
abbrev bRow (A : Option Addr) (cap : Nat) (l : List UInt8) : Item := .row 5 1 A l.length cap (l.map B8)
/-- the slice of bytes at the head has become l -/
def BRes (B : Nat) (w0 : World) (L : List Item) (l : List UInt8) (e : Ending) (w' : World) : Prop :=
  ∃ A cap l', e = .returned (.slice A l'.length cap) ∧ Hid (l' = l) ∧ Hp B w0 w' (bRow A cap l' :: L)
theorem b8_of (n : Nat) (h : n < 256) : Value.int .u8 (n : Int) = B8 (UInt8.ofNat n) := by
  unfold B8
  congr 1
  rw [UInt8.toNat_ofNat']
  omega
theorem bRow_push {B : Nat} {w0 w : World} {L : List Item} {A : Option Addr} {cap : Nat} {l : List UInt8} {v : Value} {c : UInt8} (hv : v = B8 c) (h : Hp B w0 w (.row 5 1 A (l.length + 1) cap (l.map B8 ++ [v]) :: L)) : Hp B w0 w (bRow A cap (l ++ [c]) :: L) := by
  subst hv
  unfold bRow
  simpa using h
theorem and127 (m : Nat) (h : m < 18446744073709551616) : bits .and .u64 (m : Int) 127 = (m : Int) % 128 := by
  have h := bits_mask .u64 64 (by decide) (fun n h₀ h₁ => by rw [IntKind.wrap_u64]; omega) 7 (by decide) (m : Int) (by omega) (by omega)
  have e : (2 : Int) ^ 7 - 1 = 127 := by decide
  rw [e] at h
  exact h
theorem or128 (m : Nat) : bits .or .u8 ((m : Int) % 128) 128 = (m : Int) % 128 + 128 := by
  rw [Lib.u8_or128_any _ (by omega) (by omega)]
  omega
set_option maxRecDepth 100000 in
set_option maxHeartbeats 1000000 in
theorem number_any {B : Nat} {w0 w : World} {L : List Item} (A : Option Addr) (cap : Nat) (l : List UInt8) (u : Nat) (hu : u < 18446744073709551616) (hl : l.length ≤ 1000000000000) (hS : Hp B w0 w (bRow A cap l :: L)) :
    Calls Try.prog 36 #[.slice A l.length cap, .int .u64 u] w (BRes B w0 L (l ++ uvarint u)) := by
  obtain ⟨n, hn⟩ : ∃ n, n = l.length := ⟨_, rfl⟩
  rw [← hn]
  have Hn := Lib.hid hn
  rw [← hn] at hl
  clear hn
  unfold bRow at hS
  rw [← Hn.out] at hS
  have hlen := Lib.uvarint_length64 hu
  have HL := Lib.hid hlen
  clear hlen
  go_enter Try.func36, Try.ntmps36
  go_wp2_with fail
  go_loopw [0, 1] (fun b x wr => ∃ (A : Option Addr) (cap n : Nat) (l' : List UInt8) (m : Nat), b = .slice A n cap ∧ x = .int .u64 m ∧ m < 18446744073709551616 ∧ Hid (n = l'.length) ∧ Hid (l' ++ uvarint m = l ++ uvarint u) ∧ Hp B w0 wr (.row 5 1 A n cap (l'.map B8) :: L)) (fun _ x _ => (intOf x).toNat)
  case atStart => exact ⟨A, cap, n, l, u, rfl, rfl, hu, Hn, Lib.hid rfl, hS⟩
  case round =>
    clear hS
    obtain ⟨A, cap, n', l', m, rfl, rfl, hm, Hn', Hl, hS⟩ := hrel
    have hb : n' ≤ n + 10 := by
      have h1 := congrArg List.length Hl.out
      simp only [List.length_append] at h1
      have := Lib.uvarint_pos m
      have := HL.out
      have := Hn.out
      have := Hn'.out
      omega
    by_cases hbig : m < 128
    · have hlt : (m : Int) < 128 := by omega
      have hw : IntKind.u8.wrap (m : Int) = m := by simp [IntKind.wrap, IntKind.bits, IntKind.signed]; omega
      go_wp2_with (first | ((first | with_reducible refine abs_hlist_alloc (by (repeat (first | with_reducible exact hS | with_reducible apply Hp.drew | with_reducible apply Hp.alloc | with_reducible apply Hp.put | with_reducible apply atS | with_reducible exact at0 | with_reducible exact at1 | with_reducible exact at2 | with_reducible exact at3 | with_reducible exact at4 | with_reducible exact at5))) ?_ | with_reducible refine abs_hlist_set (by (repeat (first | with_reducible exact hS | with_reducible apply Hp.drew | with_reducible apply Hp.alloc | with_reducible apply Hp.put | with_reducible apply atS | with_reducible exact at0 | with_reducible exact at1 | with_reducible exact at2 | with_reducible exact at3 | with_reducible exact at4 | with_reducible exact at5))) ?_ | with_reducible refine abs_hlist_drew (by (repeat (first | with_reducible exact hS | with_reducible apply Hp.drew | with_reducible apply Hp.alloc | with_reducible apply Hp.put | with_reducible apply atS | with_reducible exact at0 | with_reducible exact at1 | with_reducible exact at2 | with_reducible exact at3 | with_reducible exact at4 | with_reducible exact at5))) ?_ | with_reducible refine abs_hcode_alloc (by (repeat (first | with_reducible exact hS | with_reducible apply Hp.drew | with_reducible apply Hp.alloc | with_reducible apply Hp.put | with_reducible apply atS | with_reducible exact at0 | with_reducible exact at1 | with_reducible exact at2 | with_reducible exact at3 | with_reducible exact at4 | with_reducible exact at5))) ?_ | with_reducible refine abs_hcode_set (by (repeat (first | with_reducible exact hS | with_reducible apply Hp.drew | with_reducible apply Hp.alloc | with_reducible apply Hp.put | with_reducible apply atS | with_reducible exact at0 | with_reducible exact at1 | with_reducible exact at2 | with_reducible exact at3 | with_reducible exact at4 | with_reducible exact at5))) ?_ | with_reducible refine abs_hcode_drew (by (repeat (first | with_reducible exact hS | with_reducible apply Hp.drew | with_reducible apply Hp.alloc | with_reducible apply Hp.put | with_reducible apply atS | with_reducible exact at0 | with_reducible exact at1 | with_reducible exact at2 | with_reducible exact at3 | with_reducible exact at4 | with_reducible exact at5))) ?_ | with_reducible refine abs_hpost_alloc (by (repeat (first | with_reducible exact hS | with_reducible apply Hp.drew | with_reducible apply Hp.alloc | with_reducible apply Hp.put | with_reducible apply atS | with_reducible exact at0 | with_reducible exact at1 | with_reducible exact at2 | with_reducible exact at3 | with_reducible exact at4 | with_reducible exact at5))) ?_ | with_reducible refine abs_hpost_set (by (repeat (first | with_reducible exact hS | with_reducible apply Hp.drew | with_reducible apply Hp.alloc | with_reducible apply Hp.put | with_reducible apply atS | with_reducible exact at0 | with_reducible exact at1 | with_reducible exact at2 | with_reducible exact at3 | with_reducible exact at4 | with_reducible exact at5))) ?_ | with_reducible refine abs_hpost_drew (by (repeat (first | with_reducible exact hS | with_reducible apply Hp.drew | with_reducible apply Hp.alloc | with_reducible apply Hp.put | with_reducible apply atS | with_reducible exact at0 | with_reducible exact at1 | with_reducible exact at2 | with_reducible exact at3 | with_reducible exact at4 | with_reducible exact at5))) ?_ | with_reducible refine abs_hcalls_alloc (by (repeat (first | with_reducible exact hS | with_reducible apply Hp.drew | with_reducible apply Hp.alloc | with_reducible apply Hp.put | with_reducible apply atS | with_reducible exact at0 | with_reducible exact at1 | with_reducible exact at2 | with_reducible exact at3 | with_reducible exact at4 | with_reducible exact at5))) ?_ | with_reducible refine abs_hcalls_set (by (repeat (first | with_reducible exact hS | with_reducible apply Hp.drew | with_reducible apply Hp.alloc | with_reducible apply Hp.put | with_reducible apply atS | with_reducible exact at0 | with_reducible exact at1 | with_reducible exact at2 | with_reducible exact at3 | with_reducible exact at4 | with_reducible exact at5))) ?_ | with_reducible refine abs_hcalls_drew (by (repeat (first | with_reducible exact hS | with_reducible apply Hp.drew | with_reducible apply Hp.alloc | with_reducible apply Hp.put | with_reducible apply atS | with_reducible exact at0 | with_reducible exact at1 | with_reducible exact at2 | with_reducible exact at3 | with_reducible exact at4 | with_reducible exact at5))) ?_); ((try clear hF); clear hS; intro wk hS; (try simp only [List.set_cons_zero, List.set_cons_succ, heap_size, heap_set_size] at hS); ((try clear hF); (first | have hF := And.intro hS.facts (hR.at hS.ext) | have hF := hS.facts); simp only [HFacts, cellFacts, RFacts, cellOnly, and_true, true_and, Nat.zero_add, Nat.reduceAdd] at hF))) | (at_builtin; refine wpList_push_hp Try.elem_bytes rfl (.tmp 16) (.tmp 19) rfl (hS.second 0 rfl) rfl rfl rfl (by simp [Value.oneCell']) (by omega) (by omega) ?_; clear hS; intro Ak capk wk hS; (try simp only [List.eraseIdx_cons_zero, List.eraseIdx_cons_succ, List.set_cons_zero, List.set_cons_succ] at hS); ((try clear hF); (first | have hF := And.intro hS.facts (hR.at hS.ext) | have hF := hS.facts); simp only [HFacts, cellFacts, RFacts, cellOnly, and_true, true_and, Nat.zero_add, Nat.reduceAdd] at hF)))
      go_ret
      refine ⟨Ak, capk, l' ++ uvarint m, ?_, Hl, ?_⟩
      · rw [Lib.uvarint_small hbig, List.length_append]; have := Hn'.out; subst this; rfl
      · have := Hn'.out; subst this
        rw [Lib.uvarint_small hbig]
        exact bRow_push (b8_of m (by omega)) hS
    · have hge : (128 : Int) ≤ m := by omega
      have hw := and127 m hm
      have hw2 := or128 m
      have HB := Lib.hid hbig
      have hv : Value.int .u8 ((m : Int) % 128 + 128) = B8 (UInt8.ofNat (m % 128 + 128)) := by rw [← b8_of _ (by omega)]; simp
      have HV' := Lib.hid hv
      clear hv
      clear hbig
      go_wp2_with (first | ((first | with_reducible refine abs_hlist_alloc (by (repeat (first | with_reducible exact hS | with_reducible apply Hp.drew | with_reducible apply Hp.alloc | with_reducible apply Hp.put | with_reducible apply atS | with_reducible exact at0 | with_reducible exact at1 | with_reducible exact at2 | with_reducible exact at3 | with_reducible exact at4 | with_reducible exact at5))) ?_ | with_reducible refine abs_hlist_set (by (repeat (first | with_reducible exact hS | with_reducible apply Hp.drew | with_reducible apply Hp.alloc | with_reducible apply Hp.put | with_reducible apply atS | with_reducible exact at0 | with_reducible exact at1 | with_reducible exact at2 | with_reducible exact at3 | with_reducible exact at4 | with_reducible exact at5))) ?_ | with_reducible refine abs_hlist_drew (by (repeat (first | with_reducible exact hS | with_reducible apply Hp.drew | with_reducible apply Hp.alloc | with_reducible apply Hp.put | with_reducible apply atS | with_reducible exact at0 | with_reducible exact at1 | with_reducible exact at2 | with_reducible exact at3 | with_reducible exact at4 | with_reducible exact at5))) ?_ | with_reducible refine abs_hcode_alloc (by (repeat (first | with_reducible exact hS | with_reducible apply Hp.drew | with_reducible apply Hp.alloc | with_reducible apply Hp.put | with_reducible apply atS | with_reducible exact at0 | with_reducible exact at1 | with_reducible exact at2 | with_reducible exact at3 | with_reducible exact at4 | with_reducible exact at5))) ?_ | with_reducible refine abs_hcode_set (by (repeat (first | with_reducible exact hS | with_reducible apply Hp.drew | with_reducible apply Hp.alloc | with_reducible apply Hp.put | with_reducible apply atS | with_reducible exact at0 | with_reducible exact at1 | with_reducible exact at2 | with_reducible exact at3 | with_reducible exact at4 | with_reducible exact at5))) ?_ | with_reducible refine abs_hcode_drew (by (repeat (first | with_reducible exact hS | with_reducible apply Hp.drew | with_reducible apply Hp.alloc | with_reducible apply Hp.put | with_reducible apply atS | with_reducible exact at0 | with_reducible exact at1 | with_reducible exact at2 | with_reducible exact at3 | with_reducible exact at4 | with_reducible exact at5))) ?_ | with_reducible refine abs_hpost_alloc (by (repeat (first | with_reducible exact hS | with_reducible apply Hp.drew | with_reducible apply Hp.alloc | with_reducible apply Hp.put | with_reducible apply atS | with_reducible exact at0 | with_reducible exact at1 | with_reducible exact at2 | with_reducible exact at3 | with_reducible exact at4 | with_reducible exact at5))) ?_ | with_reducible refine abs_hpost_set (by (repeat (first | with_reducible exact hS | with_reducible apply Hp.drew | with_reducible apply Hp.alloc | with_reducible apply Hp.put | with_reducible apply atS | with_reducible exact at0 | with_reducible exact at1 | with_reducible exact at2 | with_reducible exact at3 | with_reducible exact at4 | with_reducible exact at5))) ?_ | with_reducible refine abs_hpost_drew (by (repeat (first | with_reducible exact hS | with_reducible apply Hp.drew | with_reducible apply Hp.alloc | with_reducible apply Hp.put | with_reducible apply atS | with_reducible exact at0 | with_reducible exact at1 | with_reducible exact at2 | with_reducible exact at3 | with_reducible exact at4 | with_reducible exact at5))) ?_ | with_reducible refine abs_hcalls_alloc (by (repeat (first | with_reducible exact hS | with_reducible apply Hp.drew | with_reducible apply Hp.alloc | with_reducible apply Hp.put | with_reducible apply atS | with_reducible exact at0 | with_reducible exact at1 | with_reducible exact at2 | with_reducible exact at3 | with_reducible exact at4 | with_reducible exact at5))) ?_ | with_reducible refine abs_hcalls_set (by (repeat (first | with_reducible exact hS | with_reducible apply Hp.drew | with_reducible apply Hp.alloc | with_reducible apply Hp.put | with_reducible apply atS | with_reducible exact at0 | with_reducible exact at1 | with_reducible exact at2 | with_reducible exact at3 | with_reducible exact at4 | with_reducible exact at5))) ?_ | with_reducible refine abs_hcalls_drew (by (repeat (first | with_reducible exact hS | with_reducible apply Hp.drew | with_reducible apply Hp.alloc | with_reducible apply Hp.put | with_reducible apply atS | with_reducible exact at0 | with_reducible exact at1 | with_reducible exact at2 | with_reducible exact at3 | with_reducible exact at4 | with_reducible exact at5))) ?_); ((try clear hF); clear hS; intro wk hS; (try simp only [List.set_cons_zero, List.set_cons_succ, heap_size, heap_set_size] at hS); ((try clear hF); (first | have hF := And.intro hS.facts (hR.at hS.ext) | have hF := hS.facts); simp only [HFacts, cellFacts, RFacts, cellOnly, and_true, true_and, Nat.zero_add, Nat.reduceAdd] at hF))) | (at_builtin; refine wpList_push_hp Try.elem_bytes rfl (.tmp 9) (.tmp 14) rfl (hS.second 0 rfl) rfl rfl rfl (by simp [Value.oneCell']) (by omega) (by omega) ?_; clear hS; intro Ak capk wk hS; (try simp only [List.eraseIdx_cons_zero, List.eraseIdx_cons_succ, List.set_cons_zero, List.set_cons_succ] at hS); ((try clear hF); (first | have hF := And.intro hS.facts (hR.at hS.ext) | have hF := hS.facts); simp only [HFacts, cellFacts, RFacts, cellOnly, and_true, true_and, Nat.zero_add, Nat.reduceAdd] at hF)))
      go_roundw
      case rel =>
        refine ⟨Ak, capk, n' + 1, l' ++ [UInt8.ofNat (m % 128 + 128)], m / 128, rfl, by go_num, by omega, Lib.hid (by rw [Hn'.out]; simp), Lib.hid ?_, ?_⟩
        · rw [← Hl.out, Lib.uvarint_big (x := m) (by have := HB.out; omega)]; simp
        · have := Hn'.out; subst this
          have := bRow_push HV'.out hS; unfold bRow at this; simpa using this
      case measure => simp [intOf]; omega
theorem number_int {B : Nat} {w0 w : World} {L : List Item} (A : Option Addr) (cap : Nat) (l : List UInt8) (u : Int) (h0 : 0 ≤ u) (hu : u < 18446744073709551616) (hl : l.length ≤ 1000000000000) (hS : Hp B w0 w (bRow A cap l :: L)) :
    Calls Try.prog 36 #[.slice A l.length cap, .int .u64 u] w (BRes B w0 L (l ++ uvarint u.toNat)) := by
  obtain ⟨n, rfl⟩ := Int.eq_ofNat_of_zero_le h0
  exact number_any A cap l n (by omega) hl hS
theorem xor_comm64 (a b : Int) : bits .xor .u64 a b = bits .xor .u64 b a := by
  show IntKind.u64.wrap ((BitVec.ofInt 64 a ^^^ BitVec.ofInt 64 b).toNat : Int) = IntKind.u64.wrap ((BitVec.ofInt 64 b ^^^ BitVec.ofInt 64 a).toNat : Int)
  rw [BitVec.xor_comm]
theorem zig_pos (x : Int) (h0 : 0 ≤ x) (h1 : x ≤ 9223372036854775807) : bits .xor .u64 (x * 2) (x / 9223372036854775808) = (zigzag x : Int) := by
  have e : x / 9223372036854775808 = ((0 : Nat) : Int) := by omega
  have e2 : x * 2 = (((x * 2).toNat : Nat) : Int) := by omega
  rw [e, e2, bits_xor_u64_nat _ _ (by omega) (by decide), Nat.xor_zero]
  unfold zigzag
  rw [if_pos h0]
  omega
theorem zig_neg (x : Int) (h0 : x < 0) (h1 : -9223372036854775808 ≤ x) : bits .xor .u64 (IntKind.u64.wrap (IntKind.u64.wrap x * 2)) (IntKind.u64.wrap (x / 9223372036854775808)) = (zigzag x : Int) := by
  have e : x / 9223372036854775808 = -1 := by omega
  have e2 : IntKind.u64.wrap (-1) = IntKind.u64.max := by decide
  rw [e, e2, xor_comm64, Lib.zigzag_neg h1 h0]
set_option maxRecDepth 100000 in
set_option maxHeartbeats 1000000 in
theorem signed_any {B : Nat} {w0 w : World} {L : List Item} (A : Option Addr) (cap : Nat) (l : List UInt8) (x : Int) (hx : i64 x) (hl : l.length ≤ 1000000000000) (hS : Hp B w0 w (bRow A cap l :: L)) :
    Calls Try.prog 51 #[.slice A l.length cap, .int .i64 x] w (BRes B w0 L (l ++ uvarint (zigzag x))) := by
  obtain ⟨hx0, hx1⟩ := hx
  have hN := number_any A cap l (zigzag x) (Lib.zigzag_lt hx0 hx1) hl hS
  clear hS
  by_cases h0 : 0 ≤ x
  · rw [← zig_pos x h0 hx1] at hN
    have HN := Lib.hid hN
    clear hN
    go_enter Try.func51, Try.ntmps51
    go_wp2_with (go_at_call 36; (with_reducible refine HN.out.mono ?_); rintro e wk ⟨Ak, capk, l', rfl, Hl, hS⟩)
    go_ret
    exact ⟨Ak, capk, l', rfl, Hl, hS⟩
  · rw [← zig_neg x (by omega) hx0] at hN
    have HN := Lib.hid hN
    clear hN
    go_enter Try.func51, Try.ntmps51
    go_wp2_with (go_at_call 36; (with_reducible refine HN.out.mono ?_); rintro e wk ⟨Ak, capk, l', rfl, Hl, hS⟩)
    go_ret
    exact ⟨Ak, capk, l', rfl, Hl, hS⟩
/-- a value as it is written -/
def encV (v : GV) : List UInt8 := if v.kind = 1 then uvarint (zigzag v.num) else uvarint v.text.size ++ v.text.data.toList
theorem strCells_b8 (s : ByteArray) : Lib.strCells s = s.data.toList.map B8 := rfl
set_option maxRecDepth 100000 in
set_option maxHeartbeats 1000000 in
theorem enc_one_any {B : Nat} {w0 w : World} {L : List Item} (A : Option Addr) (cap : Nat) (l : List UInt8) (v : GV) (hx : i64 v.num) (hs : v.text.size ≤ 1000000000000) (hl : l.length ≤ 1000000000000) (hS : Hp B w0 w (bRow A cap l :: L)) :
    Calls Try.prog 48 #[.slice A l.length cap, .agg #[.int .i64 v.kind, .int .i64 v.num, .string v.text]] w (BRes B w0 L (l ++ encV v)) := by
  have hN := fun (w : World) (L : List Item) hS => signed_any (w0 := w0) (w := w) (B := B) (L := L) A cap l v.num hx hl hS
  have hM := fun (w : World) (L : List Item) hS => number_any (w0 := w0) (w := w) (B := B) (L := L) A cap l v.text.size (by omega) hl hS
  have HN := Lib.hid hN
  have HM := Lib.hid hM
  clear hN hM
  obtain ⟨hx0, hx1⟩ := hx
  by_cases h1 : v.kind = 1
  · have e : encV v = uvarint (zigzag v.num) := by unfold encV; rw [if_pos h1]
    rw [e]
    have hb : (v.kind == 1) = true := by simp [h1]
    clear h1 e
    go_enter Try.func48, Try.ntmps48
    go_wp2_with (first | ((first | with_reducible refine abs_hlist_alloc (by (repeat (first | with_reducible exact hS | with_reducible apply Hp.drew | with_reducible apply Hp.alloc | with_reducible apply Hp.put | with_reducible apply atS | with_reducible exact at0 | with_reducible exact at1 | with_reducible exact at2 | with_reducible exact at3 | with_reducible exact at4 | with_reducible exact at5))) ?_ | with_reducible refine abs_hlist_set (by (repeat (first | with_reducible exact hS | with_reducible apply Hp.drew | with_reducible apply Hp.alloc | with_reducible apply Hp.put | with_reducible apply atS | with_reducible exact at0 | with_reducible exact at1 | with_reducible exact at2 | with_reducible exact at3 | with_reducible exact at4 | with_reducible exact at5))) ?_ | with_reducible refine abs_hlist_drew (by (repeat (first | with_reducible exact hS | with_reducible apply Hp.drew | with_reducible apply Hp.alloc | with_reducible apply Hp.put | with_reducible apply atS | with_reducible exact at0 | with_reducible exact at1 | with_reducible exact at2 | with_reducible exact at3 | with_reducible exact at4 | with_reducible exact at5))) ?_ | with_reducible refine abs_hcode_alloc (by (repeat (first | with_reducible exact hS | with_reducible apply Hp.drew | with_reducible apply Hp.alloc | with_reducible apply Hp.put | with_reducible apply atS | with_reducible exact at0 | with_reducible exact at1 | with_reducible exact at2 | with_reducible exact at3 | with_reducible exact at4 | with_reducible exact at5))) ?_ | with_reducible refine abs_hcode_set (by (repeat (first | with_reducible exact hS | with_reducible apply Hp.drew | with_reducible apply Hp.alloc | with_reducible apply Hp.put | with_reducible apply atS | with_reducible exact at0 | with_reducible exact at1 | with_reducible exact at2 | with_reducible exact at3 | with_reducible exact at4 | with_reducible exact at5))) ?_ | with_reducible refine abs_hcode_drew (by (repeat (first | with_reducible exact hS | with_reducible apply Hp.drew | with_reducible apply Hp.alloc | with_reducible apply Hp.put | with_reducible apply atS | with_reducible exact at0 | with_reducible exact at1 | with_reducible exact at2 | with_reducible exact at3 | with_reducible exact at4 | with_reducible exact at5))) ?_ | with_reducible refine abs_hpost_alloc (by (repeat (first | with_reducible exact hS | with_reducible apply Hp.drew | with_reducible apply Hp.alloc | with_reducible apply Hp.put | with_reducible apply atS | with_reducible exact at0 | with_reducible exact at1 | with_reducible exact at2 | with_reducible exact at3 | with_reducible exact at4 | with_reducible exact at5))) ?_ | with_reducible refine abs_hpost_set (by (repeat (first | with_reducible exact hS | with_reducible apply Hp.drew | with_reducible apply Hp.alloc | with_reducible apply Hp.put | with_reducible apply atS | with_reducible exact at0 | with_reducible exact at1 | with_reducible exact at2 | with_reducible exact at3 | with_reducible exact at4 | with_reducible exact at5))) ?_ | with_reducible refine abs_hpost_drew (by (repeat (first | with_reducible exact hS | with_reducible apply Hp.drew | with_reducible apply Hp.alloc | with_reducible apply Hp.put | with_reducible apply atS | with_reducible exact at0 | with_reducible exact at1 | with_reducible exact at2 | with_reducible exact at3 | with_reducible exact at4 | with_reducible exact at5))) ?_ | with_reducible refine abs_hcalls_alloc (by (repeat (first | with_reducible exact hS | with_reducible apply Hp.drew | with_reducible apply Hp.alloc | with_reducible apply Hp.put | with_reducible apply atS | with_reducible exact at0 | with_reducible exact at1 | with_reducible exact at2 | with_reducible exact at3 | with_reducible exact at4 | with_reducible exact at5))) ?_ | with_reducible refine abs_hcalls_set (by (repeat (first | with_reducible exact hS | with_reducible apply Hp.drew | with_reducible apply Hp.alloc | with_reducible apply Hp.put | with_reducible apply atS | with_reducible exact at0 | with_reducible exact at1 | with_reducible exact at2 | with_reducible exact at3 | with_reducible exact at4 | with_reducible exact at5))) ?_ | with_reducible refine abs_hcalls_drew (by (repeat (first | with_reducible exact hS | with_reducible apply Hp.drew | with_reducible apply Hp.alloc | with_reducible apply Hp.put | with_reducible apply atS | with_reducible exact at0 | with_reducible exact at1 | with_reducible exact at2 | with_reducible exact at3 | with_reducible exact at4 | with_reducible exact at5))) ?_); ((try clear hF); clear hS; intro wk hS; (try simp only [List.set_cons_zero, List.set_cons_succ, heap_size, heap_set_size] at hS); ((try clear hF); (first | have hF := And.intro hS.facts (hR.at hS.ext) | have hF := hS.facts); simp only [HFacts, cellFacts, RFacts, cellOnly, and_true, true_and, Nat.zero_add, Nat.reduceAdd] at hF))) | (go_at_call 51; (with_reducible refine Calls.mono (HN.out _ _ (hS.front 1 rfl)) ?_); clear hS; rintro e wk ⟨Ak, capk, l', rfl, Hl, hS⟩; (try simp only [List.eraseIdx_cons_zero, List.eraseIdx_cons_succ, List.set_cons_zero, List.set_cons_succ] at hS); ((try clear hF); (first | have hF := And.intro hS.facts (hR.at hS.ext) | have hF := hS.facts); simp only [HFacts, cellFacts, RFacts, cellOnly, and_true, true_and, Nat.zero_add, Nat.reduceAdd] at hF)))
    go_ret
    exact ⟨Ak, capk, l', rfl, Hl, hS.sub (by simp)⟩
  · have hb : (v.kind == 1) = false := by simp [h1]
    have e : encV v = uvarint v.text.size ++ v.text.data.toList := by unfold encV; rw [if_neg h1]
    rw [e]
    clear h1 e
    have hwz : IntKind.u64.wrap (v.text.size : Int) = v.text.size := by rw [IntKind.wrap_u64]; omega
    go_enter Try.func48, Try.ntmps48
    go_wp2_with (first | ((first | with_reducible refine abs_hlist_alloc (by (repeat (first | with_reducible exact hS | with_reducible apply Hp.drew | with_reducible apply Hp.alloc | with_reducible apply Hp.put | with_reducible apply atS | with_reducible exact at0 | with_reducible exact at1 | with_reducible exact at2 | with_reducible exact at3 | with_reducible exact at4 | with_reducible exact at5))) ?_ | with_reducible refine abs_hlist_set (by (repeat (first | with_reducible exact hS | with_reducible apply Hp.drew | with_reducible apply Hp.alloc | with_reducible apply Hp.put | with_reducible apply atS | with_reducible exact at0 | with_reducible exact at1 | with_reducible exact at2 | with_reducible exact at3 | with_reducible exact at4 | with_reducible exact at5))) ?_ | with_reducible refine abs_hlist_drew (by (repeat (first | with_reducible exact hS | with_reducible apply Hp.drew | with_reducible apply Hp.alloc | with_reducible apply Hp.put | with_reducible apply atS | with_reducible exact at0 | with_reducible exact at1 | with_reducible exact at2 | with_reducible exact at3 | with_reducible exact at4 | with_reducible exact at5))) ?_ | with_reducible refine abs_hcode_alloc (by (repeat (first | with_reducible exact hS | with_reducible apply Hp.drew | with_reducible apply Hp.alloc | with_reducible apply Hp.put | with_reducible apply atS | with_reducible exact at0 | with_reducible exact at1 | with_reducible exact at2 | with_reducible exact at3 | with_reducible exact at4 | with_reducible exact at5))) ?_ | with_reducible refine abs_hcode_set (by (repeat (first | with_reducible exact hS | with_reducible apply Hp.drew | with_reducible apply Hp.alloc | with_reducible apply Hp.put | with_reducible apply atS | with_reducible exact at0 | with_reducible exact at1 | with_reducible exact at2 | with_reducible exact at3 | with_reducible exact at4 | with_reducible exact at5))) ?_ | with_reducible refine abs_hcode_drew (by (repeat (first | with_reducible exact hS | with_reducible apply Hp.drew | with_reducible apply Hp.alloc | with_reducible apply Hp.put | with_reducible apply atS | with_reducible exact at0 | with_reducible exact at1 | with_reducible exact at2 | with_reducible exact at3 | with_reducible exact at4 | with_reducible exact at5))) ?_ | with_reducible refine abs_hpost_alloc (by (repeat (first | with_reducible exact hS | with_reducible apply Hp.drew | with_reducible apply Hp.alloc | with_reducible apply Hp.put | with_reducible apply atS | with_reducible exact at0 | with_reducible exact at1 | with_reducible exact at2 | with_reducible exact at3 | with_reducible exact at4 | with_reducible exact at5))) ?_ | with_reducible refine abs_hpost_set (by (repeat (first | with_reducible exact hS | with_reducible apply Hp.drew | with_reducible apply Hp.alloc | with_reducible apply Hp.put | with_reducible apply atS | with_reducible exact at0 | with_reducible exact at1 | with_reducible exact at2 | with_reducible exact at3 | with_reducible exact at4 | with_reducible exact at5))) ?_ | with_reducible refine abs_hpost_drew (by (repeat (first | with_reducible exact hS | with_reducible apply Hp.drew | with_reducible apply Hp.alloc | with_reducible apply Hp.put | with_reducible apply atS | with_reducible exact at0 | with_reducible exact at1 | with_reducible exact at2 | with_reducible exact at3 | with_reducible exact at4 | with_reducible exact at5))) ?_ | with_reducible refine abs_hcalls_alloc (by (repeat (first | with_reducible exact hS | with_reducible apply Hp.drew | with_reducible apply Hp.alloc | with_reducible apply Hp.put | with_reducible apply atS | with_reducible exact at0 | with_reducible exact at1 | with_reducible exact at2 | with_reducible exact at3 | with_reducible exact at4 | with_reducible exact at5))) ?_ | with_reducible refine abs_hcalls_set (by (repeat (first | with_reducible exact hS | with_reducible apply Hp.drew | with_reducible apply Hp.alloc | with_reducible apply Hp.put | with_reducible apply atS | with_reducible exact at0 | with_reducible exact at1 | with_reducible exact at2 | with_reducible exact at3 | with_reducible exact at4 | with_reducible exact at5))) ?_ | with_reducible refine abs_hcalls_drew (by (repeat (first | with_reducible exact hS | with_reducible apply Hp.drew | with_reducible apply Hp.alloc | with_reducible apply Hp.put | with_reducible apply atS | with_reducible exact at0 | with_reducible exact at1 | with_reducible exact at2 | with_reducible exact at3 | with_reducible exact at4 | with_reducible exact at5))) ?_); ((try clear hF); clear hS; intro wk hS; (try simp only [List.set_cons_zero, List.set_cons_succ, heap_size, heap_set_size] at hS); ((try clear hF); (first | have hF := And.intro hS.facts (hR.at hS.ext) | have hF := hS.facts); simp only [HFacts, cellFacts, RFacts, cellOnly, and_true, true_and, Nat.zero_add, Nat.reduceAdd] at hF))) | fail)
    ((with_reducible refine wp_region_chain_hp [.q, .q, .q, .q, .q, .t, .q, .q, .t, .t] [.blk w.heap.size [.int .i64 v.kind, .int .i64 v.num, .string v.text] 23] (by kernel_rfl) rfl (by kernel_rfl) hS (fun w h => h.sub (by simp)) ?_); clear hS; (repeat ((with_reducible refine Walk.here ?_); (first | ((with_reducible apply Walk.skipQ); (first | rfl | exact wanted_false rfl rfl rfl (by assumption)); (try simp only [Mark.isQ, if_true, Bool.false_eq_true, if_false, Act.put, List.setIfInBounds_toArray, List.set_cons_zero, List.set_cons_succ])) | ((with_reducible apply Walk.val); (first | rfl | exact wanted_true rfl rfl rfl (by assumption)); (rintro w hS; ((try clear hF); (first | have hF := And.intro hS.facts (hR.at hS.ext) | have hF := hS.facts); simp only [HFacts, cellFacts, RFacts, cellOnly, and_true, true_and, Nat.zero_add, Nat.reduceAdd] at hF); go_simp; with_reducible rfl); (try simp only [Mark.isQ, if_true, Bool.false_eq_true, if_false, Act.put, List.setIfInBounds_toArray, List.set_cons_zero, List.set_cons_succ])) | ((with_reducible apply Walk.tail); (try simp only [Mark.isQ, if_true, Bool.false_eq_true, if_false, Act.put, List.setIfInBounds_toArray, List.set_cons_zero, List.set_cons_succ])) | ((with_reducible apply Walk.guardT); rfl; rfl; rfl; (all_goals intro hg)) | ((with_reducible apply Walk.guardF); rfl; rfl; rfl; (all_goals intro hg))))); refine Walk.done ?_; simp only [chainOf, Mark.isT, if_true, Bool.false_eq_true, if_false])
    (refine Chain.call (by (first | rfl | exact wanted_true rfl rfl rfl (by assumption))) (by rintro w hS; ((try clear hF); (first | have hF := And.intro hS.facts (hR.at hS.ext) | have hF := hS.facts); simp only [HFacts, cellFacts, RFacts, cellOnly, and_true, true_and, Nat.zero_add, Nat.reduceAdd] at hF); go_simp; exact ⟨rfl, rfl⟩) ?_; (intro w hS); (with_reducible refine Calls.mono (HM.out _ _ (hS.front 1 rfl)) ?_); clear hS; rintro e wk ⟨Ak, capk, l', rfl, Hl, hS⟩; (try simp only [List.eraseIdx_cons_zero, List.eraseIdx_cons_succ, List.set_cons_zero, List.set_cons_succ] at hS); refine ⟨_, _, rfl, hS, (fun w h => h.sub (by simp)), ?_⟩; (clear hS); try simp only [Act.put, List.setIfInBounds_toArray, List.set_cons_zero, List.set_cons_succ])
    have hl' : l'.length ≤ 100000000000000 := by
      have := congrArg List.length Hl.out
      have := Lib.uvarint_length64 (x := v.text.size) (by omega)
      simp at *; omega
    (refine Chain.appendStr Try.elem_bytes Try.zero_byte Try.underlying9 (by (first | rfl | exact wanted_true rfl rfl rfl (by assumption))) (.tmp 17) (.tmp 19) rfl 0 rfl rfl rfl _ rfl (by omega) (fun w h => h.sub (by simp)) ?_; intro A3 cap3; (try simp only [List.eraseIdx_cons_zero, List.eraseIdx_cons_succ, List.set_cons_zero, List.set_cons_succ] at hS); try simp only [Act.put, List.setIfInBounds_toArray, List.set_cons_zero, List.set_cons_succ])
    (refine Chain.val (by (first | rfl | exact wanted_true rfl rfl rfl (by assumption))) (fun w h => h.sub (by simp)) (by rintro w hS; ((try clear hF); (first | have hF := And.intro hS.facts (hR.at hS.ext) | have hF := hS.facts); simp only [HFacts, cellFacts, RFacts, cellOnly, and_true, true_and, Nat.zero_add, Nat.reduceAdd] at hF); go_simp; with_reducible rfl) ?_; try simp only [Act.put, List.setIfInBounds_toArray, List.set_cons_zero, List.set_cons_succ])
    (refine Chain.done ?_; (try clear hF); intro wk hS; ((try clear hF); (first | have hF := And.intro hS.facts (hR.at hS.ext) | have hF := hS.facts); simp only [HFacts, cellFacts, RFacts, cellOnly, and_true, true_and, Nat.zero_add, Nat.reduceAdd] at hF))
    go_wp2
    go_ret
    refine ⟨A3, cap3, l' ++ v.text.data.toList, ?_, Lib.hid (by rw [Hl.out]; simp), ?_⟩
    · rw [List.length_append]; rfl
    · have := hS.sub (M := .row 5 1 A3 (l'.length + v.text.size) cap3 (l'.map B8 ++ Lib.strCells v.text) :: L) (by simp)
      rw [strCells_b8, ← List.map_append] at this
      unfold bRow
      rw [List.length_append]
      exact this
end Go.Proofs.Ytieongfdleobpaa
