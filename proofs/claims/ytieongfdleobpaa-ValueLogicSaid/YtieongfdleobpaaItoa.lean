/- value.itoa: it writes a number in decimal digits. -/
import Derived.Test.YtieongfdleobpaaCmp
import Derived.Test.YtieongfdleobpaaMem
import Derived.Test.YtieongfdleobpaaRev
import Derived.BigQuiet
namespace Go.Proofs.Ytieongfdleobpaa
open Go.RowKit
/-- the digits of a number, the least one first -/
def revDig (u : Nat) : List UInt8 := UInt8.ofNat (48 + u % 10) :: (if u / 10 = 0 then [] else revDig (u / 10))
termination_by u
decreasing_by omega
def B8 (c : UInt8) : Value := .int .u8 (c.toNat : Int)
theorem Try.elem_bytes : Elem Try.prog 70 5 1 1 := by
  obtain ⟨i0, hi0, hz0, hz1, hz2⟩ := info_parts (show (Try.prog.info? 5).map (fun i => (i.zero, i.size, i.bytes)) = some (some (.int .u8 0), 1, 1) by kernel_rfl)
  exact ⟨Try.underlying70, ⟨i0, _, hi0, hz0, hz1, hz2, rfl⟩, by omega⟩
theorem revDig_len (k : Nat) : ∀ u, u < 10 ^ k → (revDig u).length ≤ k + 1 := by
  induction k with
  | zero => intro u h; rw [revDig]; simp at h; subst h; simp
  | succ k ih =>
    intro u h
    rw [revDig]
    by_cases h0 : u / 10 = 0
    · simp [h0]
    · have := ih (u / 10) (by rw [Nat.pow_succ] at h; omega)
      simp [h0]; exact this
theorem revDig_last (m : Nat) (h : m / 10 = 0) : revDig m = [UInt8.ofNat (48 + m % 10)] := by rw [revDig]; simp [h]
theorem revDig_step (m : Nat) (h : m / 10 ≠ 0) : revDig m = UInt8.ofNat (48 + m % 10) :: revDig (m / 10) := by rw [revDig]; simp [h]
theorem dig_cell (m : Nat) : Value.int .u8 (48 + (m : Int) % 10) = B8 (UInt8.ofNat (48 + m % 10)) := by
  unfold B8
  congr 1
  rw [UInt8.toNat_ofNat']
  omega

/-- the letters of a number -/
def itoaL (n : Int) : List UInt8 := (revDig n.natAbs ++ if n < 0 then [45] else []).reverse
def itoaS (n : Int) : ByteArray := ⟨(itoaL n).toArray⟩
theorem negU (n : Int) (h0 : n < 0) (h1 : -9223372036854775808 ≤ n) : Value.int .u64 (IntKind.u64.wrap (-IntKind.u64.wrap n)) = .int .u64 (n.natAbs : Int) := by
  congr 1
  simp [IntKind.wrap, IntKind.bits, IntKind.signed]
  omega

def ItoaRel (B u0 : Nat) (w : World) (b u : Value) (wr : World) : Prop :=
  ∃ (pre : List UInt8) (m : Nat), u = .int .u64 m ∧ m ≤ u0 ∧ Mk B w wr 5 1 b pre.length (pre.map B8) ∧ pre ++ revDig m = revDig u0

set_option maxHeartbeats 1000000 in
theorem itoa_pos (n : Int) (w : World) (h0 : 0 ≤ n) (h1 : n ≤ 9223372036854775807) :
    Calls Try.prog 29 #[.int .i64 n] w fun e w' => e = .returned (.string (itoaS n)) ∧ Ext w w' := by
  go_enter Try.func29, Try.ntmps29
  go_wp2
  go_loopw [3, 4] (fun b u wr => ItoaRel w.heap.size n.natAbs w b u wr) (fun _ u _ => (intOf u).toNat)
  case atStart => exact ⟨[], n.natAbs, by rw [Int.natAbs_of_nonneg h0], Nat.le_refl _, Mk.nil (Below.refl _ _) (Nat.le_refl _), rfl⟩
  case round =>
    obtain ⟨pre, m, rfl, hm, hM, hpre⟩ := hrel
    have hl : pre.length ≤ 25 := by
      have := congrArg List.length hpre
      have := revDig_len 20 n.natAbs (by omega)
      simp at *; omega
    have Hp := Lib.hid hpre; clear hpre
    have hm3 : (m : Int) ≤ 9223372036854775807 := by omega
    by_cases hz : m / 10 = 0
    · have b1 : ((m : Int) / 10 == 0) = true := by simp; omega
      clear hz
      go_wp2_with (at_builtin; refine wpList_push Try.elem_bytes rfl (.tmp 12) (.tmp 17) rfl [.int .u8 (48 + (m : Int) % 10)] hM _ rfl rfl rfl rfl (by simp [Value.oneCell']) (by omega) (by omega) ?_; intro g cap w1 hM1 _ _)
      rw [dig_cell] at hM1
      have hM2 : Mk w.heap.size w w1 5 1 (.slice (some ⟨g, 0, none⟩) (pre.length + 1) cap) (pre.length + 1) ((revDig n.natAbs).map B8) := by
        rw [← Hp.out, revDig_last m (by simp at b1; omega)]
        simpa [B8] using hM1
      clear hM1 hM Hp
      have hlen : (revDig n.natAbs).length ≤ 25 := Nat.le_trans (revDig_len 20 n.natAbs (by omega)) (by omega)
      obtain ⟨ds, hds⟩ : ∃ ds, ds = revDig n.natAbs := ⟨_, rfl⟩
      rw [← hds] at hM2
      have Hds := Lib.hid hds; clear hds
      go_wp2
      have hL : ds.length = pre.length + 1 := by have := hM2.own.1; simp at this; exact this
      have HL := Lib.hid hL; clear hL
      have hfin : itoaS n = ⟨(swp ds ((pre.length + 1) / 2)).toArray⟩ := by rw [← HL.out, swp_half, Hds.out]; simp [itoaS, itoaL, show ¬ n < 0 by omega]
      have FIN := Lib.hid hfin; clear hfin
      go_loopw [5, 31] (fun _ i wr2 => ∃ k : Nat, i = .int .i64 k ∧ k ≤ (pre.length + 1) / 2 ∧ Mk w.heap.size w wr2 5 1 (.slice (some ⟨g, 0, none⟩) (pre.length + 1) cap) (pre.length + 1) ((swp ds k).map B8)) (fun _ i _ => (pre.length + 1) - (intOf i).toNat)
      case atStart => exact ⟨0, rfl, by omega, hM2⟩
      case round =>
        obtain ⟨k, rfl, hk, hM3⟩ := hrel
        by_cases hlt : k < (pre.length + 1) / 2
        · have hx : ds[k]? = some (ds[k]'(by have := HL.out; omega)) := List.getElem?_eq_getElem _
          have hy : ds[pre.length - k]? = some (ds[pre.length - k]'(by have := HL.out; omega)) := List.getElem?_eq_getElem _
          obtain ⟨m1, m2, m3⟩ := swp_mid ds k (by have := HL.out; omega) _ _ hx (by rw [show ds.length - 1 - k = pre.length - k by have := HL.out; omega]; exact hy)
          rw [show ds.length - 1 - k = pre.length - k by have := HL.out; omega] at m2 m3
          generalize ds[k]'(by have := HL.out; omega) = x at m1 m2 m3
          generalize ds[pre.length - k]'(by have := HL.out; omega) = y at m1 m2 m3
          clear hx hy
          have hc1 : wr.cell? ⟨g, k, none⟩ = some (.int .u8 (x.toNat : Int)) := by rw [hM3.own.cellAt k (by omega)]; simp [m1, B8]
          have hc2 : wr.cell? ⟨g, pre.length - k, none⟩ = some (.int .u8 (y.toNat : Int)) := by rw [hM3.own.cellAt _ (by omega)]; simp [m2, B8]
          have hf1 := hM3.own.frozenAt k
          have hf2 := hM3.own.frozenAt (pre.length - k)
          have M3 := Lib.hid m3; clear m1 m2 m3
          have hM4 : Mk w.heap.size w ((wr.drew.setCell ⟨g, k, none⟩ (B8 y)).setCell ⟨g, pre.length - k, none⟩ (B8 x)) 5 1 (.slice (some ⟨g, 0, none⟩) (pre.length + 1) cap) (pre.length + 1) ((swp ds (k + 1)).map B8) := by
            rw [M3.out, List.map_set, List.map_set]
            exact (hM3.drew.stored k _).stored _ _
          clear hM3 M3
          go_wp2
          go_region
          go_wp2
          go_roundw
          case rel => exact ⟨k + 1, by simp, by omega, hM4⟩
          case measure => simp [intOf]; omega
        · obtain rfl : k = (pre.length + 1) / 2 := by omega
          have hstr := run_string_own (P := Try.prog) Try.underlying70 Try.underlying5 Try.underlying9 (swp ds ((pre.length + 1) / 2)) hM3.own
          go_wp2
          go_ret
          exact ⟨by rw [FIN.out]; rfl, hM3.ext⟩
    · have b1 : ((m : Int) / 10 == 0) = false := by simp; omega
      have Hz := Lib.hid hz
      clear hz
      go_wp2_with (at_builtin; refine wpList_push Try.elem_bytes rfl (.tmp 12) (.tmp 17) rfl [.int .u8 (48 + (m : Int) % 10)] hM _ rfl rfl rfl rfl (by simp [Value.oneCell']) (by omega) (by omega) ?_; intro g cap w1 hM1 _ _)
      rw [dig_cell] at hM1
      go_roundw
      case rel => exact ⟨pre ++ [UInt8.ofNat (48 + m % 10)], m / 10, by simp, by omega, by simpa using hM1, by rw [← Hp.out, revDig_step m Hz.out]; simp⟩
      case measure => simp [intOf]; have := Hz.out; omega
set_option maxHeartbeats 1000000 in
theorem itoa_neg (n : Int) (w : World) (h0 : n < 0) (h1 : -9223372036854775808 ≤ n) :
    Calls Try.prog 29 #[.int .i64 n] w fun e w' => e = .returned (.string (itoaS n)) ∧ Ext w w' := by
  go_enter Try.func29, Try.ntmps29
  go_wp2
  go_loopw [3, 4] (fun b u wr => ItoaRel w.heap.size n.natAbs w b u wr) (fun _ u _ => (intOf u).toNat)
  case atStart => exact ⟨[], n.natAbs, negU n h0 h1, Nat.le_refl _, Mk.nil (Below.refl _ _) (Nat.le_refl _), rfl⟩
  case round =>
    obtain ⟨pre, m, rfl, hm, hM, hpre⟩ := hrel
    have hl : pre.length ≤ 25 := by
      have := congrArg List.length hpre
      have := revDig_len 20 n.natAbs (by omega)
      simp at *; omega
    have Hp := Lib.hid hpre; clear hpre
    have hm3 : (m : Int) ≤ 9223372036854775808 := by omega
    by_cases hz : m / 10 = 0
    · have b1 : ((m : Int) / 10 == 0) = true := by simp; omega
      clear hz
      go_wp2_with (first | (at_builtin; refine wpList_push Try.elem_bytes rfl (.tmp 25) (.tmp 26) rfl [.int .u8 45] hM1 _ rfl rfl rfl rfl (by simp [Value.oneCell']) (by omega) (by omega) ?_; intro g2 cap2 w2 hM9 _ _) | (at_builtin; refine wpList_push Try.elem_bytes rfl (.tmp 12) (.tmp 17) rfl [.int .u8 (48 + (m : Int) % 10)] hM _ rfl rfl rfl rfl (by simp [Value.oneCell']) (by omega) (by omega) ?_; intro g cap w1 hM1 _ _))
      rw [dig_cell] at hM9
      have hM2 : Mk w.heap.size w w2 5 1 (.slice (some ⟨g2, 0, none⟩) (pre.length + 1 + 1) cap2) (pre.length + 1 + 1) ((revDig n.natAbs ++ [45]).map B8) := by
        rw [← Hp.out, revDig_last m (by simp at b1; omega)]
        simpa [B8] using hM9
      clear hM9 hM1 hM Hp
      have hlen : (revDig n.natAbs).length ≤ 25 := Nat.le_trans (revDig_len 20 n.natAbs (by omega)) (by omega)
      obtain ⟨ds, hds⟩ : ∃ ds, ds = revDig n.natAbs ++ [45] := ⟨_, rfl⟩
      rw [← hds] at hM2
      have Hds := Lib.hid hds; clear hds
      go_wp2
      have hL : ds.length = pre.length + 1 + 1 := by have := hM2.own.1; simp at this; exact this
      have HL := Lib.hid hL; clear hL
      have hfin : itoaS n = ⟨(swp ds ((pre.length + 1 + 1) / 2)).toArray⟩ := by rw [← HL.out, swp_half, Hds.out]; simp [itoaS, itoaL, h0]
      have FIN := Lib.hid hfin; clear hfin
      go_loopw [5, 31] (fun _ i wr2 => ∃ k : Nat, i = .int .i64 k ∧ k ≤ (pre.length + 1 + 1) / 2 ∧ Mk w.heap.size w wr2 5 1 (.slice (some ⟨g2, 0, none⟩) (pre.length + 1 + 1) cap2) (pre.length + 1 + 1) ((swp ds k).map B8)) (fun _ i _ => (pre.length + 1 + 1) - (intOf i).toNat)
      case atStart => exact ⟨0, rfl, by omega, hM2⟩
      case round =>
        obtain ⟨k, rfl, hk, hM3⟩ := hrel
        by_cases hlt : k < (pre.length + 1 + 1) / 2
        · have hx : ds[k]? = some (ds[k]'(by have := HL.out; omega)) := List.getElem?_eq_getElem _
          have hy : ds[pre.length + 1 - k]? = some (ds[pre.length + 1 - k]'(by have := HL.out; omega)) := List.getElem?_eq_getElem _
          obtain ⟨m1, m2, m3⟩ := swp_mid ds k (by have := HL.out; omega) _ _ hx (by rw [show ds.length - 1 - k = pre.length + 1 - k by have := HL.out; omega]; exact hy)
          rw [show ds.length - 1 - k = pre.length + 1 - k by have := HL.out; omega] at m2 m3
          generalize ds[k]'(by have := HL.out; omega) = x at m1 m2 m3
          generalize ds[pre.length + 1 - k]'(by have := HL.out; omega) = y at m1 m2 m3
          clear hx hy
          have hc1 : wr.cell? ⟨g2, k, none⟩ = some (.int .u8 (x.toNat : Int)) := by rw [hM3.own.cellAt k (by omega)]; simp [m1, B8]
          have hc2 : wr.cell? ⟨g2, pre.length + 1 - k, none⟩ = some (.int .u8 (y.toNat : Int)) := by rw [hM3.own.cellAt _ (by omega)]; simp [m2, B8]
          have hf1 := hM3.own.frozenAt k
          have hf2 := hM3.own.frozenAt (pre.length + 1 - k)
          have M3 := Lib.hid m3; clear m1 m2 m3
          have hM4 : Mk w.heap.size w ((wr.drew.setCell ⟨g2, k, none⟩ (B8 y)).setCell ⟨g2, pre.length + 1 - k, none⟩ (B8 x)) 5 1 (.slice (some ⟨g2, 0, none⟩) (pre.length + 1 + 1) cap2) (pre.length + 1 + 1) ((swp ds (k + 1)).map B8) := by
            rw [M3.out, List.map_set, List.map_set]
            exact (hM3.drew.stored k _).stored _ _
          clear hM3 M3
          go_wp2
          go_region
          go_wp2
          go_roundw
          case rel => exact ⟨k + 1, by simp, by omega, hM4⟩
          case measure => simp [intOf]; omega
        · obtain rfl : k = (pre.length + 1 + 1) / 2 := by omega
          have hstr := run_string_own (P := Try.prog) Try.underlying70 Try.underlying5 Try.underlying9 (swp ds ((pre.length + 1 + 1) / 2)) hM3.own
          go_wp2
          go_ret
          exact ⟨by rw [FIN.out]; rfl, hM3.ext⟩
    · have b1 : ((m : Int) / 10 == 0) = false := by simp; omega
      have Hz := Lib.hid hz
      clear hz
      go_wp2_with (at_builtin; refine wpList_push Try.elem_bytes rfl (.tmp 12) (.tmp 17) rfl [.int .u8 (48 + (m : Int) % 10)] hM _ rfl rfl rfl rfl (by simp [Value.oneCell']) (by omega) (by omega) ?_; intro g cap w1 hM1 _ _)
      rw [dig_cell] at hM1
      go_roundw
      case rel => exact ⟨pre ++ [UInt8.ofNat (48 + m % 10)], m / 10, by simp, by omega, by simpa using hM1, by rw [← Hp.out, revDig_step m Hz.out]; simp⟩
      case measure => simp [intOf]; have := Hz.out; omega

theorem itoa_any (n : Int) (w : World) (h0 : -9223372036854775808 ≤ n) (h1 : n ≤ 9223372036854775807) :
    Calls Try.prog 29 #[.int .i64 n] w fun e w' => e = .returned (.string (itoaS n)) ∧ Ext w w' := by
  by_cases h : n < 0
  · exact itoa_neg n w h h0
  · exact itoa_pos n w (by omega) h1
end Go.Proofs.Ytieongfdleobpaa
