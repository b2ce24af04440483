/- the reader of encode: signed. -/
import Derived.Test.YtieongfdleobpaaRd
namespace Go.Proofs.Ytieongfdleobpaa
set_option linter.unusedSimpArgs false
set_option linter.unusedVariables false
open Go.RowKit
open Go.Lib (uvarint zigzag)
theorem rNumF_lt : ∀ (l : List UInt8) (i u : Nat) (r : Nat × List UInt8), rNumF i u l = some r → r.1 < 18446744073709551616 ∧ r.2.length < l.length
  | [], _, _, _, h => by cases h
  | c :: l, i, u, r, h => by
    unfold rNumF at h
    split at h
    · cases h
    · split at h
      · cases h; exact ⟨Nat.mod_lt _ (by decide), by simp⟩
      · have := rNumF_lt l _ _ r h
        exact ⟨this.1, by rw [List.length_cons]; omega⟩
theorem rNumber_lt (st : RSt) : (rNumber st).1 < 18446744073709551616 := by
  unfold rNumber
  split
  · rename_i u l h; exact (rNumF_lt _ _ _ _ h).1
  · exact (by decide : (0 : Nat) < 18446744073709551616)
theorem rNumber_len (st : RSt) : (rNumber st).2.1.length ≤ st.1.length := by
  unfold rNumber
  split
  · rename_i u l h; have := (rNumF_lt _ _ _ _ h).2; exact Nat.le_of_lt this
  · exact Nat.le_refl _
def unzig (u : Nat) : Int := if u % 2 = 0 then ((u / 2 : Nat) : Int) else -((u / 2 : Nat) : Int) - 1
def rSigned (st : RSt) : Int × RSt := (unzig (rNumber st).1, (rNumber st).2)
def rSmall (most : Nat) (st : RSt) : Nat × RSt := if most < (rNumber st).1 then (0, ((rNumber st).2.1, true)) else rNumber st
def rTake (n : Nat) (st : RSt) : List UInt8 × RSt := if st.1.length < n ∨ st.2 = true then ([], (st.1, true)) else (st.1.take n, (st.1.drop n, st.2))
def rOne (kind : Int) (st : RSt) : GV × RSt := if kind = 1 then (⟨1, (rSigned st).1, ⟨#[]⟩⟩, (rSigned st).2) else (⟨2, 0, ⟨(rTake (rSmall 40 st).1 (rSmall 40 st).2).1.toArray⟩⟩, (rTake (rSmall 40 st).1 (rSmall 40 st).2).2)
theorem xor_commi (a b : Int) : bits .xor .i64 a b = bits .xor .i64 b a := by
  show IntKind.i64.wrap ((BitVec.ofInt 64 a ^^^ BitVec.ofInt 64 b).toNat : Int) = IntKind.i64.wrap ((BitVec.ofInt 64 b ^^^ BitVec.ofInt 64 a).toNat : Int)
  rw [BitVec.xor_comm]
theorem xor_zeroi (a : Nat) (h : a < 9223372036854775808) : bits .xor .i64 (a : Int) 0 = a := by
  show IntKind.i64.wrap ((BitVec.ofInt 64 (a : Int) ^^^ BitVec.ofInt 64 0).toNat : Int) = _
  rw [show BitVec.ofInt 64 0 = 0#64 by rfl, BitVec.xor_zero, BitVec.ofInt_natCast, BitVec.toNat_ofNat, Nat.mod_eq_of_lt (by omega), IntKind.wrap_i64]
  omega
theorem unzig_even (u : Nat) (hu : u < 18446744073709551616) (h : u % 2 = 0) : bits .xor .i64 ((u : Int) / 2) 0 = unzig u := by
  unfold unzig
  rw [if_pos h, show (u : Int) / 2 = ((u / 2 : Nat) : Int) by omega, xor_zeroi _ (by omega)]
theorem unzig_odd (u : Nat) (hu : u < 18446744073709551616) (h : u % 2 = 1) : bits .xor .i64 ((u : Int) / 2) (-1) = unzig u := by
  unfold unzig
  rw [if_neg (by omega), show (u : Int) / 2 = ((u / 2 : Nat) : Int) by omega, xor_commi, Lib.i64_not _ (by omega)]
set_option maxRecDepth 100000 in
set_option maxHeartbeats 1000000 in
theorem rsigned_any {B : Nat} {w0 w : World} {L : List Item} (g : Nat) (s : ByteArray) (b : Bool) (hl : s.size ≤ 100000) (hS : Hp B w0 w (.blk g [.string s, .bool b] 64 :: L)) :
    Calls Try.prog 46 #[.pointer (some ⟨g, 0, none⟩)] w (RRes B w0 L g (.int .i64 (rSigned (s.data.toList, b)).1) (rSigned (s.data.toList, b)).2) := by
  have HN := Lib.hid (rnumber_any g s b hl hS)
  have hlt := rNumber_lt (s.data.toList, b)
  unfold rSigned
  obtain ⟨u, hu⟩ : ∃ u, (rNumber (s.data.toList, b)).1 = u := ⟨_, rfl⟩
  rw [hu] at HN hlt ⊢
  clear hu hS
  have a1 : bits .and .u64 (u : Int) 1 = (u : Int) % 2 := Lib.u64_and1 _ (by omega) (by omega)
  have w1 : IntKind.i64.wrap ((u : Int) / 2) = (u : Int) / 2 := by rw [IntKind.wrap_i64]; omega
  by_cases h2 : u % 2 = 0
  · have a2 : bits .and .u64 (u : Int) 1 = 0 := by rw [a1]; omega
    have HX := Lib.hid (unzig_even u hlt h2)
    clear a1 h2
    go_enter Try.func46, Try.ntmps46
    go_wp2_with (go_at_call 43; (with_reducible refine Calls.mono HN.out ?_); rintro e wk ⟨s', rfl, hs', hS⟩)
    rw [← HX.out]
    go_ret
    exact ⟨s', rfl, hs', hS⟩
  · have a2 : bits .and .u64 (u : Int) 1 = 1 := by rw [a1]; omega
    have HX := Lib.hid (unzig_odd u hlt (by omega))
    clear a1 h2
    go_enter Try.func46, Try.ntmps46
    go_wp2_with (go_at_call 43; (with_reducible refine Calls.mono HN.out ?_); rintro e wk ⟨s', rfl, hs', hS⟩)
    rw [← HX.out]
    go_ret
    exact ⟨s', rfl, hs', hS⟩
end Go.Proofs.Ytieongfdleobpaa
