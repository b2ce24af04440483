/- Texts joined: value.itoa: it writes a number in decimal digits. slices of numbers: Contains, ContainsFunc, Sort; log.mask. slices.Grow of nothing, slices.Concat of two slices of numbers; ContainsFunc. pick: a number below another one. strings.SplitSeq at a mark of one byte: what it hands back is a range over the pieces, in their order. Contracts of the library, laid by program (strconv.ParseInt, FormatInt). numbers in letters: what ParseInt answers. -/
import Derived.Test.YtcpnnffnkegamaaGreatDoorProg
import Derived.Test.YtcpnnffnkegamaaGreatDoorLZ01
import Derived.Test.YtcpnnffnkegamaaGreatDoorLZ04
import Derived.BigQuiet
import Derived.Test.YtcpnnffnkegamaaGreatDoorLZ02
import Derived.Sort.OwnSortedInts
import Derived.Test.YtcpnnffnkegamaaGreatDoorLZ03
import Derived.Lib.IndexLaws
import Derived.Shelf.Strconv.Itoa4
import Derived.Shelf.Strconv.ParseUint10b64
import Derived.Shelf.Strconv.ParseUint10At
import Derived.Shelf.Strconv.ParseInt10At64
import Derived.Shelf.Strconv.ParseInt10At32
import Derived.Shelf.Strconv.ParseInt10At16
import Derived.Shelf.Strconv.ParseInt10At8
import Derived.Shelf.Strconv.ParseInt10All
import Derived.Shelf.Strconv.ParseIntPublic10
import Derived.Shelf.Strconv.ErrVarParseInt
import Derived.Lib.SmallJoins
/- value.itoa: it writes a number in decimal digits. -/
namespace Go.Proofs.YtcpnnffnkegamaaGreatDoor
set_option linter.all false
set_option linter.unusedSimpArgs false
set_option linter.unusedVariables false
open Go.RowKit
/-- the digits of a number, the least one first -/
def revDig (u : Nat) : List UInt8 := UInt8.ofNat (48 + u % 10) :: (if u / 10 = 0 then [] else revDig (u / 10))
termination_by u
decreasing_by omega
def B8 (c : UInt8) : Value := .int .u8 (c.toNat : Int)
theorem Tryz.elem_bytes : Elem Tryz.prog 132 5 1 1 := by
  obtain ⟨i0, hi0, hz0, hz1, hz2⟩ := info_parts (show (Tryz.prog.info? 5).map (fun i => (i.zero, i.size, i.bytes)) = some (some (.int .u8 0), 1, 1) by kernel_rfl)
  exact ⟨Tryz.underlying132, ⟨i0, _, hi0, hz0, hz1, hz2, rfl⟩, by omega⟩
theorem revDig_len (k : Nat) : ∀ u, u < 10 ^ k → (revDig u).length ≤ k + 1 := by
  induction k with
  | zero => intro u h; rw [revDig]; simp at h; subst h; simp
  | succ k ih =>
    intro u h
    rw [revDig]
    by_cases h0 : u / 10 = 0
    · simp [h0]
    · have := ih (u / 10) (by rw [Nat.pow_succ] at h; omega)
      simp [h0]; exact this
theorem revDig_last (m : Nat) (h : m / 10 = 0) : revDig m = [UInt8.ofNat (48 + m % 10)] := by rw [revDig]; simp [h]
theorem revDig_step (m : Nat) (h : m / 10 ≠ 0) : revDig m = UInt8.ofNat (48 + m % 10) :: revDig (m / 10) := by rw [revDig]; simp [h]
theorem dig_cell (m : Nat) : Value.int .u8 (48 + (m : Int) % 10) = B8 (UInt8.ofNat (48 + m % 10)) := by
  unfold B8
  congr 1
  rw [UInt8.toNat_ofNat']
  omega

/-- the letters of a number -/
def itoaL (n : Int) : List UInt8 := (revDig n.natAbs ++ if n < 0 then [45] else []).reverse
def itoaS (n : Int) : ByteArray := ⟨(itoaL n).toArray⟩
theorem negU (n : Int) (h0 : n < 0) (h1 : -9223372036854775808 ≤ n) : Value.int .u64 (IntKind.u64.wrap (-IntKind.u64.wrap n)) = .int .u64 (n.natAbs : Int) := by
  congr 1
  simp [IntKind.wrap, IntKind.bits, IntKind.signed]
  omega

def ItoaRel (B u0 : Nat) (w : World) (b u : Value) (wr : World) : Prop :=
  ∃ (pre : List UInt8) (m : Nat), u = .int .u64 m ∧ m ≤ u0 ∧ Mk B w wr 5 1 b pre.length (pre.map B8) ∧ pre ++ revDig m = revDig u0

set_option maxHeartbeats 8000000 in
theorem itoa_pos (n : Int) (w : World) (h0 : 0 ≤ n) (h1 : n ≤ 9223372036854775807) :
    Calls Tryz.prog 83 #[.int .i64 n] w fun e w' => e = .returned (.string (itoaS n)) ∧ Ext w w' := by
  go_enter Tryz.func83, Tryz.ntmps83
  go_wp2
  go_loopw [3, 4] (fun b u wr => ItoaRel w.heap.size n.natAbs w b u wr) (fun _ u _ => (intOf u).toNat)
  case atStart => exact ⟨[], n.natAbs, by rw [Int.natAbs_of_nonneg h0], Nat.le_refl _, Mk.nil (Below.refl _ _) (Nat.le_refl _), rfl⟩
  case round =>
    obtain ⟨pre, m, rfl, hm, hM, hpre⟩ := hrel
    have hl : pre.length ≤ 25 := by
      have := congrArg List.length hpre
      have := revDig_len 20 n.natAbs (by omega)
      simp at *; omega
    have Hp := Lib.hid hpre; clear hpre
    have hm3 : (m : Int) ≤ 9223372036854775807 := by omega
    by_cases hz : m / 10 = 0
    · have b1 : ((m : Int) / 10 == 0) = true := by simp; omega
      clear hz
      go_wp2_with (at_builtin; refine wpList_push Tryz.elem_bytes rfl (.tmp 12) (.tmp 17) rfl [.int .u8 (48 + (m : Int) % 10)] hM _ rfl rfl rfl rfl (by simp [Value.oneCell']) (by omega) (by omega) ?_; intro g cap w1 hM1 _ _)
      rw [dig_cell] at hM1
      have hM2 : Mk w.heap.size w w1 5 1 (.slice (some ⟨g, 0, none⟩) (pre.length + 1) cap) (pre.length + 1) ((revDig n.natAbs).map B8) := by
        rw [← Hp.out, revDig_last m (by simp at b1; omega)]
        simpa [B8] using hM1
      clear hM1 hM Hp
      have hlen : (revDig n.natAbs).length ≤ 25 := Nat.le_trans (revDig_len 20 n.natAbs (by omega)) (by omega)
      obtain ⟨ds, hds⟩ : ∃ ds, ds = revDig n.natAbs := ⟨_, rfl⟩
      rw [← hds] at hM2
      have Hds := Lib.hid hds; clear hds
      go_wp2
      have hL : ds.length = pre.length + 1 := by have := hM2.own.1; simp at this; exact this
      have HL := Lib.hid hL; clear hL
      have hfin : itoaS n = ⟨(swp ds ((pre.length + 1) / 2)).toArray⟩ := by rw [← HL.out, swp_half, Hds.out]; simp [itoaS, itoaL, show ¬ n < 0 by omega]
      have FIN := Lib.hid hfin; clear hfin
      go_loopw [5, 31] (fun _ i wr2 => ∃ k : Nat, i = .int .i64 k ∧ k ≤ (pre.length + 1) / 2 ∧ Mk w.heap.size w wr2 5 1 (.slice (some ⟨g, 0, none⟩) (pre.length + 1) cap) (pre.length + 1) ((swp ds k).map B8)) (fun _ i _ => (pre.length + 1) - (intOf i).toNat)
      case atStart => exact ⟨0, rfl, by omega, hM2⟩
      case round =>
        obtain ⟨k, rfl, hk, hM3⟩ := hrel
        by_cases hlt : k < (pre.length + 1) / 2
        · have hx : ds[k]? = some (ds[k]'(by have := HL.out; omega)) := List.getElem?_eq_getElem _
          have hy : ds[pre.length - k]? = some (ds[pre.length - k]'(by have := HL.out; omega)) := List.getElem?_eq_getElem _
          obtain ⟨m1, m2, m3⟩ := swp_mid ds k (by have := HL.out; omega) _ _ hx (by rw [show ds.length - 1 - k = pre.length - k by have := HL.out; omega]; exact hy)
          rw [show ds.length - 1 - k = pre.length - k by have := HL.out; omega] at m2 m3
          generalize ds[k]'(by have := HL.out; omega) = x at m1 m2 m3
          generalize ds[pre.length - k]'(by have := HL.out; omega) = y at m1 m2 m3
          clear hx hy
          have hc1 : wr.cell? ⟨g, k, none⟩ = some (.int .u8 (x.toNat : Int)) := by rw [hM3.own.cellAt k (by omega)]; simp [m1, B8]
          have hc2 : wr.cell? ⟨g, pre.length - k, none⟩ = some (.int .u8 (y.toNat : Int)) := by rw [hM3.own.cellAt _ (by omega)]; simp [m2, B8]
          have hf1 := hM3.own.frozenAt k
          have hf2 := hM3.own.frozenAt (pre.length - k)
          have M3 := Lib.hid m3; clear m1 m2 m3
          have hM4 : Mk w.heap.size w ((wr.drew.setCell ⟨g, k, none⟩ (B8 y)).setCell ⟨g, pre.length - k, none⟩ (B8 x)) 5 1 (.slice (some ⟨g, 0, none⟩) (pre.length + 1) cap) (pre.length + 1) ((swp ds (k + 1)).map B8) := by
            rw [M3.out, List.map_set, List.map_set]
            exact (hM3.drew.stored k _).stored _ _
          clear hM3 M3
          go_wp2
          go_region
          go_wp2
          go_roundw
          case rel => exact ⟨k + 1, by simp, by omega, hM4⟩
          case measure => simp [intOf]; omega
        · obtain rfl : k = (pre.length + 1) / 2 := by omega
          have hstr := run_string_own (P := Tryz.prog) Tryz.underlying132 Tryz.underlying5 Tryz.underlying9 (swp ds ((pre.length + 1) / 2)) hM3.own
          go_wp2
          go_ret
          exact ⟨by rw [FIN.out]; rfl, hM3.ext⟩
    · have b1 : ((m : Int) / 10 == 0) = false := by simp; omega
      have Hz := Lib.hid hz
      clear hz
      go_wp2_with (at_builtin; refine wpList_push Tryz.elem_bytes rfl (.tmp 12) (.tmp 17) rfl [.int .u8 (48 + (m : Int) % 10)] hM _ rfl rfl rfl rfl (by simp [Value.oneCell']) (by omega) (by omega) ?_; intro g cap w1 hM1 _ _)
      rw [dig_cell] at hM1
      go_roundw
      case rel => exact ⟨pre ++ [UInt8.ofNat (48 + m % 10)], m / 10, by simp, by omega, by simpa using hM1, by rw [← Hp.out, revDig_step m Hz.out]; simp⟩
      case measure => simp [intOf]; have := Hz.out; omega
set_option maxHeartbeats 8000000 in
theorem itoa_neg (n : Int) (w : World) (h0 : n < 0) (h1 : -9223372036854775808 ≤ n) :
    Calls Tryz.prog 83 #[.int .i64 n] w fun e w' => e = .returned (.string (itoaS n)) ∧ Ext w w' := by
  go_enter Tryz.func83, Tryz.ntmps83
  go_wp2
  go_loopw [3, 4] (fun b u wr => ItoaRel w.heap.size n.natAbs w b u wr) (fun _ u _ => (intOf u).toNat)
  case atStart => exact ⟨[], n.natAbs, negU n h0 h1, Nat.le_refl _, Mk.nil (Below.refl _ _) (Nat.le_refl _), rfl⟩
  case round =>
    obtain ⟨pre, m, rfl, hm, hM, hpre⟩ := hrel
    have hl : pre.length ≤ 25 := by
      have := congrArg List.length hpre
      have := revDig_len 20 n.natAbs (by omega)
      simp at *; omega
    have Hp := Lib.hid hpre; clear hpre
    have hm3 : (m : Int) ≤ 9223372036854775808 := by omega
    by_cases hz : m / 10 = 0
    · have b1 : ((m : Int) / 10 == 0) = true := by simp; omega
      clear hz
      go_wp2_with (first | (at_builtin; refine wpList_push Tryz.elem_bytes rfl (.tmp 25) (.tmp 26) rfl [.int .u8 45] hM1 _ rfl rfl rfl rfl (by simp [Value.oneCell']) (by omega) (by omega) ?_; intro g2 cap2 w2 hM9 _ _) | (at_builtin; refine wpList_push Tryz.elem_bytes rfl (.tmp 12) (.tmp 17) rfl [.int .u8 (48 + (m : Int) % 10)] hM _ rfl rfl rfl rfl (by simp [Value.oneCell']) (by omega) (by omega) ?_; intro g cap w1 hM1 _ _))
      rw [dig_cell] at hM9
      have hM2 : Mk w.heap.size w w2 5 1 (.slice (some ⟨g2, 0, none⟩) (pre.length + 1 + 1) cap2) (pre.length + 1 + 1) ((revDig n.natAbs ++ [45]).map B8) := by
        rw [← Hp.out, revDig_last m (by simp at b1; omega)]
        simpa [B8] using hM9
      clear hM9 hM1 hM Hp
      have hlen : (revDig n.natAbs).length ≤ 25 := Nat.le_trans (revDig_len 20 n.natAbs (by omega)) (by omega)
      obtain ⟨ds, hds⟩ : ∃ ds, ds = revDig n.natAbs ++ [45] := ⟨_, rfl⟩
      rw [← hds] at hM2
      have Hds := Lib.hid hds; clear hds
      go_wp2
      have hL : ds.length = pre.length + 1 + 1 := by have := hM2.own.1; simp at this; exact this
      have HL := Lib.hid hL; clear hL
      have hfin : itoaS n = ⟨(swp ds ((pre.length + 1 + 1) / 2)).toArray⟩ := by rw [← HL.out, swp_half, Hds.out]; simp [itoaS, itoaL, h0]
      have FIN := Lib.hid hfin; clear hfin
      go_loopw [5, 31] (fun _ i wr2 => ∃ k : Nat, i = .int .i64 k ∧ k ≤ (pre.length + 1 + 1) / 2 ∧ Mk w.heap.size w wr2 5 1 (.slice (some ⟨g2, 0, none⟩) (pre.length + 1 + 1) cap2) (pre.length + 1 + 1) ((swp ds k).map B8)) (fun _ i _ => (pre.length + 1 + 1) - (intOf i).toNat)
      case atStart => exact ⟨0, rfl, by omega, hM2⟩
      case round =>
        obtain ⟨k, rfl, hk, hM3⟩ := hrel
        by_cases hlt : k < (pre.length + 1 + 1) / 2
        · have hx : ds[k]? = some (ds[k]'(by have := HL.out; omega)) := List.getElem?_eq_getElem _
          have hy : ds[pre.length + 1 - k]? = some (ds[pre.length + 1 - k]'(by have := HL.out; omega)) := List.getElem?_eq_getElem _
          obtain ⟨m1, m2, m3⟩ := swp_mid ds k (by have := HL.out; omega) _ _ hx (by rw [show ds.length - 1 - k = pre.length + 1 - k by have := HL.out; omega]; exact hy)
          rw [show ds.length - 1 - k = pre.length + 1 - k by have := HL.out; omega] at m2 m3
          generalize ds[k]'(by have := HL.out; omega) = x at m1 m2 m3
          generalize ds[pre.length + 1 - k]'(by have := HL.out; omega) = y at m1 m2 m3
          clear hx hy
          have hc1 : wr.cell? ⟨g2, k, none⟩ = some (.int .u8 (x.toNat : Int)) := by rw [hM3.own.cellAt k (by omega)]; simp [m1, B8]
          have hc2 : wr.cell? ⟨g2, pre.length + 1 - k, none⟩ = some (.int .u8 (y.toNat : Int)) := by rw [hM3.own.cellAt _ (by omega)]; simp [m2, B8]
          have hf1 := hM3.own.frozenAt k
          have hf2 := hM3.own.frozenAt (pre.length + 1 - k)
          have M3 := Lib.hid m3; clear m1 m2 m3
          have hM4 : Mk w.heap.size w ((wr.drew.setCell ⟨g2, k, none⟩ (B8 y)).setCell ⟨g2, pre.length + 1 - k, none⟩ (B8 x)) 5 1 (.slice (some ⟨g2, 0, none⟩) (pre.length + 1 + 1) cap2) (pre.length + 1 + 1) ((swp ds (k + 1)).map B8) := by
            rw [M3.out, List.map_set, List.map_set]
            exact (hM3.drew.stored k _).stored _ _
          clear hM3 M3
          go_wp2
          go_region
          go_wp2
          go_roundw
          case rel => exact ⟨k + 1, by simp, by omega, hM4⟩
          case measure => simp [intOf]; omega
        · obtain rfl : k = (pre.length + 1 + 1) / 2 := by omega
          have hstr := run_string_own (P := Tryz.prog) Tryz.underlying132 Tryz.underlying5 Tryz.underlying9 (swp ds ((pre.length + 1 + 1) / 2)) hM3.own
          go_wp2
          go_ret
          exact ⟨by rw [FIN.out]; rfl, hM3.ext⟩
    · have b1 : ((m : Int) / 10 == 0) = false := by simp; omega
      have Hz := Lib.hid hz
      clear hz
      go_wp2_with (at_builtin; refine wpList_push Tryz.elem_bytes rfl (.tmp 12) (.tmp 17) rfl [.int .u8 (48 + (m : Int) % 10)] hM _ rfl rfl rfl rfl (by simp [Value.oneCell']) (by omega) (by omega) ?_; intro g cap w1 hM1 _ _)
      rw [dig_cell] at hM1
      go_roundw
      case rel => exact ⟨pre ++ [UInt8.ofNat (48 + m % 10)], m / 10, by simp, by omega, by simpa using hM1, by rw [← Hp.out, revDig_step m Hz.out]; simp⟩
      case measure => simp [intOf]; have := Hz.out; omega

theorem itoa_any (n : Int) (w : World) (h0 : -9223372036854775808 ≤ n) (h1 : n ≤ 9223372036854775807) :
    Calls Tryz.prog 83 #[.int .i64 n] w fun e w' => e = .returned (.string (itoaS n)) ∧ Ext w w' := by
  by_cases h : n < 0
  · exact itoa_neg n w h h0
  · exact itoa_pos n w (by omega) h1
end Go.Proofs.YtcpnnffnkegamaaGreatDoor

/- slices of numbers: Contains, ContainsFunc, Sort; log.mask. -/
namespace Go.Proofs.YtcpnnffnkegamaaGreatDoor
set_option linter.unusedSimpArgs false
set_option linter.unusedVariables false
open Go.RowKit
set_option linter.all false
open Go.Sort
theorem RI.some {w : World} {A : Option Addr} {l : List Int} (h : RI w A l) (h1 : 0 < l.length) : ∃ b o, A = some ⟨b, o, none⟩ ∧ ∀ j, j < l.length → w.cell? ⟨b, o + j, none⟩ = some (.int .i64 (l.getD j 0)) := by
  obtain ⟨b, o, e, _⟩ := h 0 (l[0]'h1) (List.getElem?_eq_getElem _)
  refine ⟨b, o, e, fun j hj => ?_⟩
  obtain ⟨b2, o2, e2, c⟩ := h j (l[j]'hj) (List.getElem?_eq_getElem _)
  rw [e] at e2
  obtain ⟨rfl, rfl⟩ : b = b2 ∧ o = o2 := by simpa using e2
  rw [List.getD_eq_getElem?_getD, List.getElem?_eq_getElem hj]
  exact c
theorem icontains_any {l : List Int} {A : Option Addr} {n cap : Nat} {x : Int} {w : World} (hn : l.length = n) (hl : n ≤ 1000000) (hr : RI w A l) :
    Calls Tryz.prog 66 #[.slice A n cap, .int .i64 x] w fun e w' => e = .returned (.bool (l.contains x)) ∧ Ext w w' := by
  rcases Nat.eq_zero_or_pos n with h0 | h0
  · subst h0
    have : l = [] := List.eq_nil_of_length_eq_zero hn
    subst this
    exact (Tryz.slices_Contains_int_empty A cap x w).mono fun e w' ⟨h1, h2⟩ => ⟨h1, h2 ▸ Ext.refl w⟩
  · obtain ⟨b, o, rfl, hc⟩ := hr.some (by omega)
    have := Tryz.slices_Contains_int b o n cap l x w (by omega) (by omega) hc
    rw [List.take_of_length_le (by omega)] at this
    exact this.mono fun e w' ⟨h1, h2⟩ => ⟨h1, h2 ▸ Ext.refl w⟩
/-- places that may be masked -/
def maskFrom (rows : Int) : Int → List Int → Bool
  | _, [] => true
  | p, x :: l => decide (0 ≤ x) && decide (x < rows) && decide (p < x) && maskFrom rows x l
def maskB (l : List Int) (rows : Int) : Bool := maskFrom rows (-1) l
def idxI (p : Int → Bool) : Nat → List Int → Int
  | _, [] => -1
  | k, x :: l => if p x then k else idxI p (k + 1) l
theorem idxI_any (p : Int → Bool) : ∀ (l : List Int) (k : Nat), decide (0 ≤ idxI p k l) = l.any p
  | [], k => rfl
  | x :: l, k => by
    unfold idxI
    rw [List.any_cons]
    cases hp : p x with
    | true => simp
    | false => simpa [hp] using idxI_any p l (k + 1)
theorem dropI_cons {l : List Int} {k : Nat} {x : Int} (h : l[k]? = some x) : l.drop k = x :: l.drop (k + 1) := by
  obtain ⟨h1, h2⟩ := List.getElem?_eq_some_iff.1 h
  rw [List.drop_eq_getElem_cons h1, h2]
set_option maxRecDepth 100000 in
set_option maxHeartbeats 8000000 in
theorem mask_any (l : List Int) (A : Option Addr) (n cap : Nat) (rows : Int) (w : World) (hn : l.length = n) (hl : n ≤ 1000000) (hr : RI w A l) :
    Calls Tryz.prog 33 #[.slice A n cap, .int .i64 rows] w fun e w' => e = .returned (.bool (maskB l rows)) ∧ Ext w w' := by
  have Hn := Lib.hid hn
  obtain ⟨D, hD⟩ : ∃ D, D = maskB l rows := ⟨_, rfl⟩
  rw [← hD]
  have HD := Lib.hid hD
  clear hn hD
  have hS := Hp.init w
  have hR := Reads.nil w
  go_enter Tryz.func33, Tryz.ntmps33
  go_wp2_with (first | ((with_reducible first | refine nhLa ?_ | refine nhLs ?_ | refine nhLd ?_ | refine nhCa ?_ | refine nhCs ?_ | refine nhCd ?_ | refine nhPa ?_ | refine nhPs ?_ | refine nhPd ?_ | refine nhKa ?_ | refine nhKs ?_ | refine nhKd ?_); ((try clear hF); clear hS; intro wk hS; (try simp only [List.set_cons_zero, List.set_cons_succ, heap_size, heap_set_size] at hS); ((try clear hF); (first | have hF := And.intro hS.facts (HRD.out _ (hS.sub (by first | simp | ((repeat (first | exact List.nil_sublist _ | exact List.Sublist.refl _ | with_reducible apply List.Sublist.cons₂ | apply List.Sublist.cons)))))) | have hF := And.intro hS.facts (hR.at hS.ext) | have hF := hS.facts); simp only [HFacts, cellFacts, RFacts, cellOnly, and_true, true_and, Nat.zero_add, Nat.reduceAdd] at hF))) | fail)
  go_loopw [9] (fun i wr => ∃ (k : Nat), i = .int .i64 k ∧ k ≤ n ∧ Hid (D = maskFrom rows (if k = 0 then -1 else l.getD (k - 1) 0) (l.drop k)) ∧ Hp w.heap.size w wr []) (fun i _ => n - (intOf i).toNat)
  case atStart => exact ⟨0, rfl, Nat.zero_le _, Lib.hid (by rw [HD.out, if_pos rfl, List.drop_zero]; rfl), hS⟩
  case round =>
    clear hS
    obtain ⟨k, rfl, hk, HDK, hS⟩ := hrel
    by_cases hlt : k < n
    · obtain ⟨x, hx⟩ : ∃ x, l[k]? = some x := ⟨l[k]'(by rw [Hn.out]; exact hlt), List.getElem?_eq_getElem _⟩
      obtain ⟨b, o, rfl, c0⟩ := hr k x hx
      have HDG := Lib.hid (show D = (decide (0 ≤ x) && decide (x < rows) && decide ((if k = 0 then -1 else l.getD (k - 1) 0) < x) && maskFrom rows x (l.drop (k + 1))) by rw [HDK.out, dropI_cons hx]; rfl)
      have hxg : l.getD k 0 = x := by rw [List.getD_eq_getElem?_getD, hx]; rfl
      clear hR
      by_cases x0 : x < 0
      · have hD2 : D = false := by rw [HDG.out, decide_eq_false (show ¬ 0 ≤ x by omega)]; simp
        subst hD2
        have hR := Reads.cell c0 (Reads.nil w)
        ((try clear hF); (first | have hF := And.intro hS.facts (HRD.out _ (hS.sub (by first | simp | ((repeat (first | exact List.nil_sublist _ | exact List.Sublist.refl _ | with_reducible apply List.Sublist.cons₂ | apply List.Sublist.cons)))))) | have hF := And.intro hS.facts (hR.at hS.ext) | have hF := hS.facts); simp only [HFacts, cellFacts, RFacts, cellOnly, and_true, true_and, Nat.zero_add, Nat.reduceAdd] at hF)
        go_wp2_with (first | ((with_reducible first | refine nhLa ?_ | refine nhLs ?_ | refine nhLd ?_ | refine nhCa ?_ | refine nhCs ?_ | refine nhCd ?_ | refine nhPa ?_ | refine nhPs ?_ | refine nhPd ?_ | refine nhKa ?_ | refine nhKs ?_ | refine nhKd ?_); ((try clear hF); clear hS; intro wk hS; (try simp only [List.set_cons_zero, List.set_cons_succ, heap_size, heap_set_size] at hS); ((try clear hF); (first | have hF := And.intro hS.facts (HRD.out _ (hS.sub (by first | simp | ((repeat (first | exact List.nil_sublist _ | exact List.Sublist.refl _ | with_reducible apply List.Sublist.cons₂ | apply List.Sublist.cons)))))) | have hF := And.intro hS.facts (hR.at hS.ext) | have hF := hS.facts); simp only [HFacts, cellFacts, RFacts, cellOnly, and_true, true_and, Nat.zero_add, Nat.reduceAdd] at hF))) | fail)
        go_ret
        exact ⟨rfl, hS.ext⟩
      by_cases x1 : rows ≤ x
      · have hD2 : D = false := by rw [HDG.out, decide_eq_false (show ¬ x < rows by omega)]; simp
        subst hD2
        have hR := Reads.cell c0 (Reads.nil w)
        ((try clear hF); (first | have hF := And.intro hS.facts (HRD.out _ (hS.sub (by first | simp | ((repeat (first | exact List.nil_sublist _ | exact List.Sublist.refl _ | with_reducible apply List.Sublist.cons₂ | apply List.Sublist.cons)))))) | have hF := And.intro hS.facts (hR.at hS.ext) | have hF := hS.facts); simp only [HFacts, cellFacts, RFacts, cellOnly, and_true, true_and, Nat.zero_add, Nat.reduceAdd] at hF)
        go_wp2_with (first | ((with_reducible first | refine nhLa ?_ | refine nhLs ?_ | refine nhLd ?_ | refine nhCa ?_ | refine nhCs ?_ | refine nhCd ?_ | refine nhPa ?_ | refine nhPs ?_ | refine nhPd ?_ | refine nhKa ?_ | refine nhKs ?_ | refine nhKd ?_); ((try clear hF); clear hS; intro wk hS; (try simp only [List.set_cons_zero, List.set_cons_succ, heap_size, heap_set_size] at hS); ((try clear hF); (first | have hF := And.intro hS.facts (HRD.out _ (hS.sub (by first | simp | ((repeat (first | exact List.nil_sublist _ | exact List.Sublist.refl _ | with_reducible apply List.Sublist.cons₂ | apply List.Sublist.cons)))))) | have hF := And.intro hS.facts (hR.at hS.ext) | have hF := hS.facts); simp only [HFacts, cellFacts, RFacts, cellOnly, and_true, true_and, Nat.zero_add, Nat.reduceAdd] at hF))) | fail)
        go_ret
        exact ⟨rfl, hS.ext⟩
      by_cases k0 : k = 0
      · subst k0
        simp only [Nat.add_zero] at c0
        have hR := Reads.cell c0 (Reads.nil w)
        ((try clear hF); (first | have hF := And.intro hS.facts (HRD.out _ (hS.sub (by first | simp | ((repeat (first | exact List.nil_sublist _ | exact List.Sublist.refl _ | with_reducible apply List.Sublist.cons₂ | apply List.Sublist.cons)))))) | have hF := And.intro hS.facts (hR.at hS.ext) | have hF := hS.facts); simp only [HFacts, cellFacts, RFacts, cellOnly, and_true, true_and, Nat.zero_add, Nat.reduceAdd] at hF)
        go_wp2_with (first | ((with_reducible first | refine nhLa ?_ | refine nhLs ?_ | refine nhLd ?_ | refine nhCa ?_ | refine nhCs ?_ | refine nhCd ?_ | refine nhPa ?_ | refine nhPs ?_ | refine nhPd ?_ | refine nhKa ?_ | refine nhKs ?_ | refine nhKd ?_); ((try clear hF); clear hS; intro wk hS; (try simp only [List.set_cons_zero, List.set_cons_succ, heap_size, heap_set_size] at hS); ((try clear hF); (first | have hF := And.intro hS.facts (HRD.out _ (hS.sub (by first | simp | ((repeat (first | exact List.nil_sublist _ | exact List.Sublist.refl _ | with_reducible apply List.Sublist.cons₂ | apply List.Sublist.cons)))))) | have hF := And.intro hS.facts (hR.at hS.ext) | have hF := hS.facts); simp only [HFacts, cellFacts, RFacts, cellOnly, and_true, true_and, Nat.zero_add, Nat.reduceAdd] at hF))) | fail)
        go_roundw
        case rel => exact ⟨1, by go_num, by omega, Lib.hid (by rw [HDG.out, if_pos rfl, decide_eq_true (show 0 ≤ x by omega), decide_eq_true (show x < rows by omega), decide_eq_true (show -1 < x by omega), if_neg (by omega), hxg]; simp), hS⟩
        case measure => simp [intOf]; omega
      · obtain ⟨y, hy⟩ : ∃ y, l[k - 1]? = some y := ⟨l[k - 1]'(by rw [Hn.out]; omega), List.getElem?_eq_getElem _⟩
        obtain ⟨b1, o1, hA, d0⟩ := hr (k - 1) y hy
        obtain ⟨rfl, rfl⟩ : b = b1 ∧ o = o1 := by simpa using hA
        have hyg : l.getD (k - 1) 0 = y := by rw [List.getD_eq_getElem?_getD, hy]; rfl
        rw [if_neg k0, hyg] at HDG
        have hR := Reads.cell c0 (Reads.cell d0 (Reads.nil w))
        have hk1 : 0 < (k : Int) := by omega
        have e1 : IntKind.i64.wrap ((k : Int) - 1) = ((k - 1 : Nat) : Int) := by rw [IntWalk.i64_in _ (by omega)]; omega
        by_cases hyx : x ≤ y
        · have hD2 : D = false := by rw [HDG.out, decide_eq_false (show ¬ y < x by omega)]; simp
          subst hD2
          ((try clear hF); (first | have hF := And.intro hS.facts (HRD.out _ (hS.sub (by first | simp | ((repeat (first | exact List.nil_sublist _ | exact List.Sublist.refl _ | with_reducible apply List.Sublist.cons₂ | apply List.Sublist.cons)))))) | have hF := And.intro hS.facts (hR.at hS.ext) | have hF := hS.facts); simp only [HFacts, cellFacts, RFacts, cellOnly, and_true, true_and, Nat.zero_add, Nat.reduceAdd] at hF)
          go_wp2_with (first | ((with_reducible first | refine nhLa ?_ | refine nhLs ?_ | refine nhLd ?_ | refine nhCa ?_ | refine nhCs ?_ | refine nhCd ?_ | refine nhPa ?_ | refine nhPs ?_ | refine nhPd ?_ | refine nhKa ?_ | refine nhKs ?_ | refine nhKd ?_); ((try clear hF); clear hS; intro wk hS; (try simp only [List.set_cons_zero, List.set_cons_succ, heap_size, heap_set_size] at hS); ((try clear hF); (first | have hF := And.intro hS.facts (HRD.out _ (hS.sub (by first | simp | ((repeat (first | exact List.nil_sublist _ | exact List.Sublist.refl _ | with_reducible apply List.Sublist.cons₂ | apply List.Sublist.cons)))))) | have hF := And.intro hS.facts (hR.at hS.ext) | have hF := hS.facts); simp only [HFacts, cellFacts, RFacts, cellOnly, and_true, true_and, Nat.zero_add, Nat.reduceAdd] at hF))) | fail)
          go_ret
          exact ⟨rfl, hS.ext⟩
        · skip
          ((try clear hF); (first | have hF := And.intro hS.facts (HRD.out _ (hS.sub (by first | simp | ((repeat (first | exact List.nil_sublist _ | exact List.Sublist.refl _ | with_reducible apply List.Sublist.cons₂ | apply List.Sublist.cons)))))) | have hF := And.intro hS.facts (hR.at hS.ext) | have hF := hS.facts); simp only [HFacts, cellFacts, RFacts, cellOnly, and_true, true_and, Nat.zero_add, Nat.reduceAdd] at hF)
          go_wp2_with (first | ((with_reducible first | refine nhLa ?_ | refine nhLs ?_ | refine nhLd ?_ | refine nhCa ?_ | refine nhCs ?_ | refine nhCd ?_ | refine nhPa ?_ | refine nhPs ?_ | refine nhPd ?_ | refine nhKa ?_ | refine nhKs ?_ | refine nhKd ?_); ((try clear hF); clear hS; intro wk hS; (try simp only [List.set_cons_zero, List.set_cons_succ, heap_size, heap_set_size] at hS); ((try clear hF); (first | have hF := And.intro hS.facts (HRD.out _ (hS.sub (by first | simp | ((repeat (first | exact List.nil_sublist _ | exact List.Sublist.refl _ | with_reducible apply List.Sublist.cons₂ | apply List.Sublist.cons)))))) | have hF := And.intro hS.facts (hR.at hS.ext) | have hF := hS.facts); simp only [HFacts, cellFacts, RFacts, cellOnly, and_true, true_and, Nat.zero_add, Nat.reduceAdd] at hF))) | fail)
          go_roundw
          case rel => exact ⟨k + 1, by go_num, by omega, Lib.hid (by rw [HDG.out, decide_eq_true (show 0 ≤ x by omega), decide_eq_true (show x < rows by omega), decide_eq_true (show y < x by omega), if_neg (by omega), Nat.add_sub_cancel, hxg]; simp), hS⟩
          case measure => simp [intOf]; omega
    · obtain rfl : n = k := by omega
      have hD2 : D = true := by rw [HDK.out, List.drop_eq_nil_of_le (by rw [Hn.out]; omega)]; rfl
      subst hD2
      ((try clear hF); (first | have hF := And.intro hS.facts (HRD.out _ (hS.sub (by first | simp | ((repeat (first | exact List.nil_sublist _ | exact List.Sublist.refl _ | with_reducible apply List.Sublist.cons₂ | apply List.Sublist.cons)))))) | have hF := And.intro hS.facts (hR.at hS.ext) | have hF := hS.facts); simp only [HFacts, cellFacts, RFacts, cellOnly, and_true, true_and, Nat.zero_add, Nat.reduceAdd] at hF)
      go_wp2_with (first | ((with_reducible first | refine nhLa ?_ | refine nhLs ?_ | refine nhLd ?_ | refine nhCa ?_ | refine nhCs ?_ | refine nhCd ?_ | refine nhPa ?_ | refine nhPs ?_ | refine nhPd ?_ | refine nhKa ?_ | refine nhKs ?_ | refine nhKd ?_); ((try clear hF); clear hS; intro wk hS; (try simp only [List.set_cons_zero, List.set_cons_succ, heap_size, heap_set_size] at hS); ((try clear hF); (first | have hF := And.intro hS.facts (HRD.out _ (hS.sub (by first | simp | ((repeat (first | exact List.nil_sublist _ | exact List.Sublist.refl _ | with_reducible apply List.Sublist.cons₂ | apply List.Sublist.cons)))))) | have hF := And.intro hS.facts (hR.at hS.ext) | have hF := hS.facts); simp only [HFacts, cellFacts, RFacts, cellOnly, and_true, true_and, Nat.zero_add, Nat.reduceAdd] at hF))) | fail)
      go_ret
      exact ⟨rfl, hS.ext⟩
/-- numbers, in order -/
def sortI (l : List Int) : List Int := l.mergeSort fun x y => decide (x ≤ y)
theorem sortI_len (l : List Int) : (sortI l).length = l.length := by simp [sortI]
set_option maxHeartbeats 8000000 in
/-- slices.Sort -/
theorem isort_any {B : Nat} {w0 w : World} {L : List Item} {A : Option Addr} {m cap : Nat} (l : List Int) (hm : l.length = m) (hl : m ≤ 1000000000) (hS : Hp B w0 w (.row 3 1 A m cap (intsV l) :: L)) :
    Calls Tryz.prog 68 #[.slice A m cap] w fun e w' => e = .returned (.tuple #[]) ∧ Hp B w0 w' (.row 3 1 A m cap (intsV (sortI l)) :: L) := by
  have hown : w.ownsRow B 3 1 (.slice A m cap) m (intsV l) := hS.head
  rcases hown.2 with ⟨hv, h0⟩ | ⟨g, cp, cur, hv, hbase, hgb, r1, r2, r3, r4⟩
  · obtain ⟨rfl, rfl, rfl⟩ : A = none ∧ m = 0 ∧ cap = 0 := by simpa using hv
    have hn : l = [] := List.eq_nil_of_length_eq_zero hm
    subst hn
    refine (Tryz.slices_Sort_int_none none 0 w).mono ?_
    rintro e w' ⟨rfl, rfl⟩
    refine ⟨rfl, ?_⟩
    rw [show sortI [] = [] from by simp [sortI]]
    exact hS
  · obtain ⟨rfl, _, rfl⟩ : A = some ⟨g, 0, none⟩ ∧ m = m ∧ cap = cp := by simpa using hv
    have hH : Holds (Value.int .i64) w g 0 l.toArray := holds_of_blockI hgb (by rw [hm]; simpa using r4)
    have hgl : g < w.heap.size := (Array.getElem?_eq_some_iff.1 hgb).1
    have cS := Tryz.slices_Sort_int g 0 cap l w hH hgl (by rw [hm]; omega)
    rw [hm] at cS
    refine cS.mono ?_
    rintro e w' ⟨rfl, nn, os, rfl⟩
    refine ⟨rfl, hS.turn (row := some g) (grownBy_sortedI _) (.inr rfl) ?_ (.inl rfl)⟩
    have := ownsRow_sortedI (n := nn) (os := os) (ss := l) (ts := l.mergeSort fun x y => decide (x ≤ y)) (by simp) hbase hgb (by rw [hm]; exact r1) r2 r3
    rw [hm] at this
    exact this
end Go.Proofs.YtcpnnffnkegamaaGreatDoor

/- slices.Grow of nothing, slices.Concat of two slices of numbers; ContainsFunc. -/
namespace Go.Proofs.YtcpnnffnkegamaaGreatDoor
set_option linter.unusedSimpArgs false
set_option linter.unusedVariables false
open Go.RowKit
set_option linter.all false
set_option maxRecDepth 100000 in
set_option maxHeartbeats 8000000 in
theorem igrow_any (n : Nat) (h0 : 0 < n) (hn : n ≤ 1000000) (w : World) :
    Calls Tryz.prog 91 #[.slice none 0 0, .int .i64 n] w fun e w' => ∃ g cap, e = .returned (.slice (some ⟨g, 0, none⟩) 0 cap) ∧ Hp w.heap.size w w' [.row 3 1 (some ⟨g, 0, none⟩) 0 cap []] := by
  have hS := Hp.init w
  have hR := Reads.nil w
  have e1 : wrap64 ((n : Int) - 0) = (n : Int) := by unfold wrap64; omega
  have e2 : ¬ ((n : Int) < 0) := by omega
  have e3 : (0 : Int) < (n : Int) := by omega
  go_enter Tryz.func91, Tryz.ntmps91
  go_wp2_with (first | ((with_reducible first | refine nhLa ?_ | refine nhLs ?_ | refine nhLd ?_ | refine nhCa ?_ | refine nhCs ?_ | refine nhCd ?_ | refine nhPa ?_ | refine nhPs ?_ | refine nhPd ?_ | refine nhKa ?_ | refine nhKs ?_ | refine nhKd ?_); ((try clear hF); clear hS; intro wk hS; (try simp only [List.set_cons_zero, List.set_cons_succ, heap_size, heap_set_size] at hS); ((try clear hF); (first | have hF := And.intro hS.facts (HRD.out _ (hS.sub (by first | simp | ((repeat (first | exact List.nil_sublist _ | exact List.Sublist.refl _ | with_reducible apply List.Sublist.cons₂ | apply List.Sublist.cons)))))) | have hF := And.intro hS.facts (hR.at hS.ext) | have hF := hS.facts); simp only [HFacts, cellFacts, RFacts, cellOnly, and_true, true_and, Nat.zero_add, Nat.reduceAdd] at hF))) | (at_builtin; refine wpList_zeros_hp Tryz.elem_ints Tryz.underlying3 rfl (.tmp 20) (.tmp 21) rfl hS rfl (by go_simp; rfl) h0 (by omega) (by omega) ?_; clear hS; intro g cap wk hc hS; ((try clear hF); (first | have hF := And.intro hS.facts (HRD.out _ (hS.sub (by first | simp | ((repeat (first | exact List.nil_sublist _ | exact List.Sublist.refl _ | with_reducible apply List.Sublist.cons₂ | apply List.Sublist.cons)))))) | have hF := And.intro hS.facts (hR.at hS.ext) | have hF := hS.facts); simp only [HFacts, cellFacts, RFacts, cellOnly, and_true, true_and, Nat.zero_add, Nat.reduceAdd] at hF)))
  go_ret
  exact ⟨g, cap, rfl, hS⟩
theorem intsV_one (l : List Int) : ∀ u ∈ intsV l, u.oneCell' = true := fun u hu => by
  obtain ⟨x, _, rfl⟩ := List.mem_map.1 hu
  rfl
theorem RI.nil {w : World} {l : List Int} (h : RI w none l) : l = [] := by
  cases l with
  | nil => rfl
  | cons x l =>
    obtain ⟨b, o, e, _⟩ := h 0 x rfl
    cases e
/-- append of the numbers of another slice -/
theorem wpList_append_ri {B : Nat} {w0 w : World} {L : List Item} {n m c cap : Nat} {A A2 : Option Addr} {xs l : List Int} {ops : Array Oper} {rest : List Oper} {o : Oper} {a : Act} {Q : Exit → Act → World → Prop} (hgd : o.guard = none) (s x : Operand)
    (ho : o.op = .call { callee := .builtin .append, args := #[s, x], argTypes := #[41, 41] }) (h : Hp B w0 w (.row 3 1 A n cap (intsV xs) :: L)) (hs : a.eval s = .slice A n cap) (hr : RI w A2 l) (hl : l.length = m) (hz : A2 = none → c = 0) (hx : a.eval x = .slice A2 m c) (hm : n + m ≤ 1000000)
    (k : ∀ A' cap' w', Hp B w0 w' (.row 3 1 A' (n + m) cap' (intsV (xs ++ l)) :: L) → wpList Tryz.prog ops Q rest (a.put o.dst (.slice A' (n + m : Nat) cap')) w') : wpList Tryz.prog ops Q (o :: rest) a w := by
  cases A2 with
  | none =>
    have := hr.nil
    subst this
    obtain rfl : m = 0 := by simpa using hl.symm
    obtain rfl : c = 0 := hz rfl
    refine wpList_plain hgd fun K hK => ?_
    have hr := run_append_nilsrc (P := Tryz.prog) (t := 41) (ty := o.type) Tryz.elem_ints h
    unfold Oper.wp execOp
    simp only [ho, resolve, invoke, builtin, Sem.run_bind, Sem.run_pure, Result.andThen_ok, List.map_toArray, List.map_cons, List.map_nil, hs, hx, hr]
    exact hK _ _ (k A cap w (by rw [List.append_nil]; exact h))
  | some ad =>
    refine wpList_append_hp Tryz.elem_ints hgd s x ho h hs ad hx (news := intsV l) (by rw [List.length_map, hl, Nat.mul_one]) (fun j u hu => ?_) (intsV_one l) (by omega) (by omega) (fun A' cap' w' h' => k A' cap' w' (by rw [intsV, List.map_append]; exact h'))
    rw [intsV_get] at hu
    obtain ⟨y, hy, rfl⟩ := Option.map_eq_some_iff.1 hu
    obtain ⟨b, o, e, hc⟩ := hr j y hy
    obtain rfl := Option.some.inj e
    rw [addr_plus]
    exact hc
set_option maxRecDepth 100000 in
set_option maxHeartbeats 8000000 in
theorem iconcat_any (l m : List Int) (A A2 : Option Addr) (n k c c2 gs : Nat) (t : TypeId) (w : World) (hn : l.length = n) (hk : m.length = k) (h0 : 0 < n + k) (hs : n + k ≤ 1000) (hr : RI w A l) (hr2 : RI w A2 m) (hz : A = none → c = 0) (hz2 : A2 = none → c2 = 0)
    (hb : w.heap[gs]? = some (.cells #[.slice A n c, .slice A2 k c2] t (0, 0))) :
    Calls Tryz.prog 67 #[.slice (some ⟨gs, 0, none⟩) 2 2] w fun e w' => ∃ A' cap', e = .returned (.slice A' (n + k : Nat) cap') ∧ Hp w.heap.size w w' [.row 3 1 A' (n + k) cap' (intsV (l ++ m))] := by
  have HR := Lib.hid hr
  have HR2 := Lib.hid hr2
  have HG := Lib.hid (fun W : World => show Calls Tryz.prog 91 #[.slice none 0 0, .int .i64 ((n : Int) + (k : Int))] W (fun e w' => ∃ g cap, e = .returned (.slice (some ⟨g, 0, none⟩) 0 cap) ∧ Hp W.heap.size W w' [.row 3 1 (some ⟨g, 0, none⟩) 0 cap []]) from by
    have := igrow_any (n + k) h0 (by omega) W
    rw [Int.natCast_add] at this
    exact this)
  have hS := Hp.init w
  have hR := Reads.blk hb (Reads.nil w)
  clear hb hr hr2
  go_enter Tryz.func67, Tryz.ntmps67
  go_wp2_with (first | ((with_reducible first | refine nhLa ?_ | refine nhLs ?_ | refine nhLd ?_ | refine nhCa ?_ | refine nhCs ?_ | refine nhCd ?_ | refine nhPa ?_ | refine nhPs ?_ | refine nhPd ?_ | refine nhKa ?_ | refine nhKs ?_ | refine nhKd ?_); ((try clear hF); clear hS; intro wk hS; (try simp only [List.set_cons_zero, List.set_cons_succ, heap_size, heap_set_size] at hS); ((try clear hF); (first | have hF := And.intro hS.facts (HRD.out _ (hS.sub (by first | simp | ((repeat (first | exact List.nil_sublist _ | exact List.Sublist.refl _ | with_reducible apply List.Sublist.cons₂ | apply List.Sublist.cons)))))) | have hF := And.intro hS.facts (hR.at hS.ext) | have hF := hS.facts); simp only [HFacts, cellFacts, RFacts, cellOnly, and_true, true_and, Nat.zero_add, Nat.reduceAdd] at hF))) | fail)
  go_loopw [11, 3] (fun i s wr => ∃ (j : Nat), i = .int .i64 j ∧ (j = 0 ∧ s = .int .i64 0 ∨ j = 1 ∧ s = .int .i64 n ∨ j = 2 ∧ s = .int .i64 ((n : Int) + (k : Int))) ∧ Hp w.heap.size w wr []) (fun i _ _ => 2 - (intOf i).toNat)
  case atStart => exact ⟨0, rfl, .inl ⟨rfl, rfl⟩, hS⟩
  case round =>
    clear hS
    obtain ⟨j, rfl, hj, hS⟩ := hrel
    rcases hj with ⟨rfl, rfl⟩ | ⟨rfl, rfl⟩ | ⟨rfl, rfl⟩
    · have e1 : wrap64 (0 + (n : Int)) = (n : Int) := by unfold wrap64; omega
      ((try clear hF); (first | have hF := And.intro hS.facts (HRD.out _ (hS.sub (by first | simp | ((repeat (first | exact List.nil_sublist _ | exact List.Sublist.refl _ | with_reducible apply List.Sublist.cons₂ | apply List.Sublist.cons)))))) | have hF := And.intro hS.facts (hR.at hS.ext) | have hF := hS.facts); simp only [HFacts, cellFacts, RFacts, cellOnly, and_true, true_and, Nat.zero_add, Nat.reduceAdd] at hF)
      go_wp2_with (first | ((with_reducible first | refine nhLa ?_ | refine nhLs ?_ | refine nhLd ?_ | refine nhCa ?_ | refine nhCs ?_ | refine nhCd ?_ | refine nhPa ?_ | refine nhPs ?_ | refine nhPd ?_ | refine nhKa ?_ | refine nhKs ?_ | refine nhKd ?_); ((try clear hF); clear hS; intro wk hS; (try simp only [List.set_cons_zero, List.set_cons_succ, heap_size, heap_set_size] at hS); ((try clear hF); (first | have hF := And.intro hS.facts (HRD.out _ (hS.sub (by first | simp | ((repeat (first | exact List.nil_sublist _ | exact List.Sublist.refl _ | with_reducible apply List.Sublist.cons₂ | apply List.Sublist.cons)))))) | have hF := And.intro hS.facts (hR.at hS.ext) | have hF := hS.facts); simp only [HFacts, cellFacts, RFacts, cellOnly, and_true, true_and, Nat.zero_add, Nat.reduceAdd] at hF))) | fail)
      go_roundw
      case rel => exact ⟨1, by go_num, .inr (.inl ⟨rfl, by go_simp⟩), hS⟩
      case measure => simp [intOf]
    · have e1 : IntKind.i64.wrap ((n : Int) + (k : Int)) = (n : Int) + (k : Int) := IntWalk.i64_in _ (by omega)
      have e2 : ¬ ((n : Int) + (k : Int) < 0) := by omega
      ((try clear hF); (first | have hF := And.intro hS.facts (HRD.out _ (hS.sub (by first | simp | ((repeat (first | exact List.nil_sublist _ | exact List.Sublist.refl _ | with_reducible apply List.Sublist.cons₂ | apply List.Sublist.cons)))))) | have hF := And.intro hS.facts (hR.at hS.ext) | have hF := hS.facts); simp only [HFacts, cellFacts, RFacts, cellOnly, and_true, true_and, Nat.zero_add, Nat.reduceAdd] at hF)
      go_wp2_with (first | ((with_reducible first | refine nhLa ?_ | refine nhLs ?_ | refine nhLd ?_ | refine nhCa ?_ | refine nhCs ?_ | refine nhCd ?_ | refine nhPa ?_ | refine nhPs ?_ | refine nhPd ?_ | refine nhKa ?_ | refine nhKs ?_ | refine nhKd ?_); ((try clear hF); clear hS; intro wk hS; (try simp only [List.set_cons_zero, List.set_cons_succ, heap_size, heap_set_size] at hS); ((try clear hF); (first | have hF := And.intro hS.facts (HRD.out _ (hS.sub (by first | simp | ((repeat (first | exact List.nil_sublist _ | exact List.Sublist.refl _ | with_reducible apply List.Sublist.cons₂ | apply List.Sublist.cons)))))) | have hF := And.intro hS.facts (hR.at hS.ext) | have hF := hS.facts); simp only [HFacts, cellFacts, RFacts, cellOnly, and_true, true_and, Nat.zero_add, Nat.reduceAdd] at hF))) | fail)
      go_roundw
      case rel => exact ⟨2, by go_num, .inr (.inr ⟨rfl, by go_simp⟩), hS⟩
      case measure => simp [intOf]
    · skip
      ((try clear hF); (first | have hF := And.intro hS.facts (HRD.out _ (hS.sub (by first | simp | ((repeat (first | exact List.nil_sublist _ | exact List.Sublist.refl _ | with_reducible apply List.Sublist.cons₂ | apply List.Sublist.cons)))))) | have hF := And.intro hS.facts (hR.at hS.ext) | have hF := hS.facts); simp only [HFacts, cellFacts, RFacts, cellOnly, and_true, true_and, Nat.zero_add, Nat.reduceAdd] at hF)
      go_wp2_with (first | ((with_reducible first | refine nhLa ?_ | refine nhLs ?_ | refine nhLd ?_ | refine nhCa ?_ | refine nhCs ?_ | refine nhCd ?_ | refine nhPa ?_ | refine nhPs ?_ | refine nhPd ?_ | refine nhKa ?_ | refine nhKs ?_ | refine nhKd ?_); ((try clear hF); clear hS; intro wk hS; (try simp only [List.set_cons_zero, List.set_cons_succ, heap_size, heap_set_size] at hS); ((try clear hF); (first | have hF := And.intro hS.facts (HRD.out _ (hS.sub (by first | simp | ((repeat (first | exact List.nil_sublist _ | exact List.Sublist.refl _ | with_reducible apply List.Sublist.cons₂ | apply List.Sublist.cons)))))) | have hF := And.intro hS.facts (hR.at hS.ext) | have hF := hS.facts); simp only [HFacts, cellFacts, RFacts, cellOnly, and_true, true_and, Nat.zero_add, Nat.reduceAdd] at hF))) | (go_at_call 91; (with_reducible refine Calls.mono (HG.out _) ?_); rintro e wk ⟨g, cap, rfl, hW⟩; replace hS := hS.join hW; clear hW; simp only [List.cons_append, List.nil_append] at hS; ((try clear hF); (first | have hF := And.intro hS.facts (HRD.out _ (hS.sub (by first | simp | ((repeat (first | exact List.nil_sublist _ | exact List.Sublist.refl _ | with_reducible apply List.Sublist.cons₂ | apply List.Sublist.cons)))))) | have hF := And.intro hS.facts (hR.at hS.ext) | have hF := hS.facts); simp only [HFacts, cellFacts, RFacts, cellOnly, and_true, true_and, Nat.zero_add, Nat.reduceAdd] at hF)))
      go_loopw [27, 6] (fun i s wr => ∃ (j q : Nat) (B' : Option Addr) (cb : Nat) (xs : List Int), i = .int .i64 j ∧ s = .slice B' q cb ∧ (j = 0 ∧ q = 0 ∧ xs = [] ∨ j = 1 ∧ q = n ∧ xs = l ∨ j = 2 ∧ q = n + k ∧ xs = l ++ m) ∧ Hp w.heap.size w wr [.row 3 1 B' q cb (intsV xs)]) (fun i _ _ => 2 - (intOf i).toNat)
      case atStart => exact ⟨0, 0, _, cap, [], rfl, rfl, .inl ⟨rfl, rfl, rfl⟩, hS⟩
      case round =>
        clear hS
        obtain ⟨j, q, B', cb, xs, rfl, rfl, hj, hS⟩ := hrel
        rcases hj with ⟨rfl, rfl, rfl⟩ | ⟨rfl, rfl, rfl⟩ | ⟨rfl, rfl, rfl⟩
        · ((try clear hF); (first | have hF := And.intro hS.facts (HRD.out _ (hS.sub (by first | simp | ((repeat (first | exact List.nil_sublist _ | exact List.Sublist.refl _ | with_reducible apply List.Sublist.cons₂ | apply List.Sublist.cons)))))) | have hF := And.intro hS.facts (hR.at hS.ext) | have hF := hS.facts); simp only [HFacts, cellFacts, RFacts, cellOnly, and_true, true_and, Nat.zero_add, Nat.reduceAdd] at hF)
          go_wp2_with (first | ((with_reducible first | refine nhLa ?_ | refine nhLs ?_ | refine nhLd ?_ | refine nhCa ?_ | refine nhCs ?_ | refine nhCd ?_ | refine nhPa ?_ | refine nhPs ?_ | refine nhPd ?_ | refine nhKa ?_ | refine nhKs ?_ | refine nhKd ?_); ((try clear hF); clear hS; intro wk hS; (try simp only [List.set_cons_zero, List.set_cons_succ, heap_size, heap_set_size] at hS); ((try clear hF); (first | have hF := And.intro hS.facts (HRD.out _ (hS.sub (by first | simp | ((repeat (first | exact List.nil_sublist _ | exact List.Sublist.refl _ | with_reducible apply List.Sublist.cons₂ | apply List.Sublist.cons)))))) | have hF := And.intro hS.facts (hR.at hS.ext) | have hF := hS.facts); simp only [HFacts, cellFacts, RFacts, cellOnly, and_true, true_and, Nat.zero_add, Nat.reduceAdd] at hF))) | (at_builtin; refine wpList_append_ri rfl (.tmp 31) (.tmp 32) rfl hS rfl (HR.out.ext hS.ext) hn hz rfl (by omega) ?_; clear hS; intro Af capf wk hS; ((try clear hF); (first | have hF := And.intro hS.facts (HRD.out _ (hS.sub (by first | simp | ((repeat (first | exact List.nil_sublist _ | exact List.Sublist.refl _ | with_reducible apply List.Sublist.cons₂ | apply List.Sublist.cons)))))) | have hF := And.intro hS.facts (hR.at hS.ext) | have hF := hS.facts); simp only [HFacts, cellFacts, RFacts, cellOnly, and_true, true_and, Nat.zero_add, Nat.reduceAdd] at hF)))
          go_roundw
          case rel => exact ⟨1, n, Af, capf, l, by go_num, rfl, .inr (.inl ⟨rfl, rfl, rfl⟩), by rw [Nat.zero_add] at hS; exact hS⟩
          case measure => simp [intOf]
        · ((try clear hF); (first | have hF := And.intro hS.facts (HRD.out _ (hS.sub (by first | simp | ((repeat (first | exact List.nil_sublist _ | exact List.Sublist.refl _ | with_reducible apply List.Sublist.cons₂ | apply List.Sublist.cons)))))) | have hF := And.intro hS.facts (hR.at hS.ext) | have hF := hS.facts); simp only [HFacts, cellFacts, RFacts, cellOnly, and_true, true_and, Nat.zero_add, Nat.reduceAdd] at hF)
          go_wp2_with (first | ((with_reducible first | refine nhLa ?_ | refine nhLs ?_ | refine nhLd ?_ | refine nhCa ?_ | refine nhCs ?_ | refine nhCd ?_ | refine nhPa ?_ | refine nhPs ?_ | refine nhPd ?_ | refine nhKa ?_ | refine nhKs ?_ | refine nhKd ?_); ((try clear hF); clear hS; intro wk hS; (try simp only [List.set_cons_zero, List.set_cons_succ, heap_size, heap_set_size] at hS); ((try clear hF); (first | have hF := And.intro hS.facts (HRD.out _ (hS.sub (by first | simp | ((repeat (first | exact List.nil_sublist _ | exact List.Sublist.refl _ | with_reducible apply List.Sublist.cons₂ | apply List.Sublist.cons)))))) | have hF := And.intro hS.facts (hR.at hS.ext) | have hF := hS.facts); simp only [HFacts, cellFacts, RFacts, cellOnly, and_true, true_and, Nat.zero_add, Nat.reduceAdd] at hF))) | (at_builtin; refine wpList_append_ri rfl (.tmp 31) (.tmp 32) rfl hS rfl (HR2.out.ext hS.ext) hk hz2 rfl (by omega) ?_; clear hS; intro Af capf wk hS; ((try clear hF); (first | have hF := And.intro hS.facts (HRD.out _ (hS.sub (by first | simp | ((repeat (first | exact List.nil_sublist _ | exact List.Sublist.refl _ | with_reducible apply List.Sublist.cons₂ | apply List.Sublist.cons)))))) | have hF := And.intro hS.facts (hR.at hS.ext) | have hF := hS.facts); simp only [HFacts, cellFacts, RFacts, cellOnly, and_true, true_and, Nat.zero_add, Nat.reduceAdd] at hF)))
          go_roundw
          case rel => exact ⟨2, _, Af, capf, _, by go_num, rfl, .inr (.inr ⟨rfl, rfl, rfl⟩), hS⟩
          case measure => simp [intOf]
        · ((try clear hF); (first | have hF := And.intro hS.facts (HRD.out _ (hS.sub (by first | simp | ((repeat (first | exact List.nil_sublist _ | exact List.Sublist.refl _ | with_reducible apply List.Sublist.cons₂ | apply List.Sublist.cons)))))) | have hF := And.intro hS.facts (hR.at hS.ext) | have hF := hS.facts); simp only [HFacts, cellFacts, RFacts, cellOnly, and_true, true_and, Nat.zero_add, Nat.reduceAdd] at hF)
          go_wp2_with (first | ((with_reducible first | refine nhLa ?_ | refine nhLs ?_ | refine nhLd ?_ | refine nhCa ?_ | refine nhCs ?_ | refine nhCd ?_ | refine nhPa ?_ | refine nhPs ?_ | refine nhPd ?_ | refine nhKa ?_ | refine nhKs ?_ | refine nhKd ?_); ((try clear hF); clear hS; intro wk hS; (try simp only [List.set_cons_zero, List.set_cons_succ, heap_size, heap_set_size] at hS); ((try clear hF); (first | have hF := And.intro hS.facts (HRD.out _ (hS.sub (by first | simp | ((repeat (first | exact List.nil_sublist _ | exact List.Sublist.refl _ | with_reducible apply List.Sublist.cons₂ | apply List.Sublist.cons)))))) | have hF := And.intro hS.facts (hR.at hS.ext) | have hF := hS.facts); simp only [HFacts, cellFacts, RFacts, cellOnly, and_true, true_and, Nat.zero_add, Nat.reduceAdd] at hF))) | fail)
          go_ret
          exact ⟨B', cb, rfl, hS⟩
def PredI (w0 : World) (g : Nat) (lb : Array Value) (p : Int → Bool) : Prop :=
  ∀ W, Ext w0 W → ∀ x : Int, Calls Tryz.prog g (#[.int .i64 x] ++ lb) W fun e w' => e = .returned (.bool (p x)) ∧ Ext W w'
theorem PredI.at {w0 : World} {g : Nat} {lb : Array Value} {p : Int → Bool} (h : PredI w0 g lb p) (W : World) (hx : Ext w0 W) (x : Int) : Calls Tryz.prog g (#[.int .i64 x] ++ lb) W fun e w' => e = .returned (.bool (p x)) ∧ Ext W w' := h W hx x
set_option maxRecDepth 100000 in
set_option maxHeartbeats 8000000 in
theorem iindexFunc_any (l : List Int) (A : Option Addr) (n cap : Nat) (g : Nat) (lb : Array Value) (p : Int → Bool) (w : World) (hn : l.length = n) (hr : RI w A l) (hl : n ≤ 1000000) (eg : ∀ args w, (callFunc g args).run Tryz.prog w = .ok (.enter g args) w) (hp : PredI w g lb p) :
    Calls Tryz.prog 89 #[.slice A n cap, .func (.func g) #[] lb] w fun e w' => e = .returned (.int .i64 (idxI p 0 l)) ∧ Ext w w' := by
  have Hn := Lib.hid hn.symm
  clear hn
  have HP := Lib.hid hp
  clear hp
  have hS := Hp.init w
  have hR := Reads.nil w
  go_enter Tryz.func89, Tryz.ntmps89
  go_wp2_with (first | ((with_reducible first | refine nhLa ?_ | refine nhLs ?_ | refine nhLd ?_ | refine nhCa ?_ | refine nhCs ?_ | refine nhCd ?_ | refine nhPa ?_ | refine nhPs ?_ | refine nhPd ?_ | refine nhKa ?_ | refine nhKs ?_ | refine nhKd ?_); ((try clear hF); clear hS; intro wk hS; (try simp only [List.set_cons_zero, List.set_cons_succ, heap_size, heap_set_size] at hS); ((try clear hF); (first | have hF := And.intro hS.facts (HRD.out _ (hS.sub (by first | simp | ((repeat (first | exact List.nil_sublist _ | exact List.Sublist.refl _ | with_reducible apply List.Sublist.cons₂ | apply List.Sublist.cons)))))) | have hF := And.intro hS.facts (hR.at hS.ext) | have hF := hS.facts); simp only [HFacts, cellFacts, RFacts, cellOnly, and_true, true_and, Nat.zero_add, Nat.reduceAdd] at hF))) | fail)
  go_loopw [8, 5] (fun i _ wr => ∃ k : Nat, i = .int .i64 k ∧ k ≤ n ∧ Hid (idxI p 0 l = idxI p k (l.drop k)) ∧ Hp w.heap.size w wr []) (fun i _ _ => n - (intOf i).toNat)
  case atStart => exact ⟨0, rfl, Nat.zero_le _, Lib.hid rfl, hS⟩
  case round =>
    clear hS
    obtain ⟨k, rfl, hk, hf, hS⟩ := hrel
    by_cases hlt : k < n
    · have hlt' : k < l.length := by rw [← Hn.out]; exact hlt
      obtain ⟨x, hx'⟩ : ∃ x, l[k]? = some x := ⟨l[k], List.getElem?_eq_getElem hlt'⟩
      obtain ⟨b, o, rfl, c0⟩ := hr k x hx'
      have hR := Reads.cell c0 (Reads.nil w)
      have HD := Lib.hid (dropI_cons hx')
      clear hx' hlt' c0 hr
      ((try clear hF); (first | have hF := And.intro hS.facts (HRD.out _ (hS.sub (by first | simp | ((repeat (first | exact List.nil_sublist _ | exact List.Sublist.refl _ | with_reducible apply List.Sublist.cons₂ | apply List.Sublist.cons)))))) | have hF := And.intro hS.facts (hR.at hS.ext) | have hF := hS.facts); simp only [HFacts, cellFacts, RFacts, cellOnly, and_true, true_and, Nat.zero_add, Nat.reduceAdd] at hF)
      go_wp2_with (first | ((with_reducible first | refine nhLa ?_ | refine nhLs ?_ | refine nhLd ?_ | refine nhCa ?_ | refine nhCs ?_ | refine nhCd ?_ | refine nhPa ?_ | refine nhPs ?_ | refine nhPd ?_ | refine nhKa ?_ | refine nhKs ?_ | refine nhKd ?_); ((try clear hF); clear hS; intro wk hS; (try simp only [List.set_cons_zero, List.set_cons_succ, heap_size, heap_set_size] at hS); ((try clear hF); (first | have hF := And.intro hS.facts (HRD.out _ (hS.sub (by first | simp | ((repeat (first | exact List.nil_sublist _ | exact List.Sublist.refl _ | with_reducible apply List.Sublist.cons₂ | apply List.Sublist.cons)))))) | have hF := And.intro hS.facts (hR.at hS.ext) | have hF := hS.facts); simp only [HFacts, cellFacts, RFacts, cellOnly, and_true, true_and, Nat.zero_add, Nat.reduceAdd] at hF))) | ((with_reducible refine (HP.out.at _ hS.ext x).mono ?_); rintro e wk ⟨rfl, hX⟩; replace hS := hS.step hX; clear hX; ((try clear hF); (first | have hF := And.intro hS.facts (HRD.out _ (hS.sub (by first | simp | ((repeat (first | exact List.nil_sublist _ | exact List.Sublist.refl _ | with_reducible apply List.Sublist.cons₂ | apply List.Sublist.cons)))))) | have hF := And.intro hS.facts (hR.at hS.ext) | have hF := hS.facts); simp only [HFacts, cellFacts, RFacts, cellOnly, and_true, true_and, Nat.zero_add, Nat.reduceAdd] at hF)))
      · go_ret
        refine ⟨?_, hS.ext⟩
        have hc : p x = true := by assumption
        rw [hf.out, HD.out, idxI, if_pos hc]; first | done | rfl
      · go_roundw
        case rel =>
          have hc : p x = false := by assumption
          exact ⟨k + 1, by go_num, by omega, Lib.hid (by rw [hf.out, HD.out, idxI, if_neg (by rw [hc]; simp)]), hS⟩
        case measure => simp [intOf]; omega
    · obtain rfl : n = k := by omega
      ((try clear hF); (first | have hF := And.intro hS.facts (HRD.out _ (hS.sub (by first | simp | ((repeat (first | exact List.nil_sublist _ | exact List.Sublist.refl _ | with_reducible apply List.Sublist.cons₂ | apply List.Sublist.cons)))))) | have hF := And.intro hS.facts (hR.at hS.ext) | have hF := hS.facts); simp only [HFacts, cellFacts, RFacts, cellOnly, and_true, true_and, Nat.zero_add, Nat.reduceAdd] at hF)
      go_wp2_with (first | ((with_reducible first | refine nhLa ?_ | refine nhLs ?_ | refine nhLd ?_ | refine nhCa ?_ | refine nhCs ?_ | refine nhCd ?_ | refine nhPa ?_ | refine nhPs ?_ | refine nhPd ?_ | refine nhKa ?_ | refine nhKs ?_ | refine nhKd ?_); ((try clear hF); clear hS; intro wk hS; (try simp only [List.set_cons_zero, List.set_cons_succ, heap_size, heap_set_size] at hS); ((try clear hF); (first | have hF := And.intro hS.facts (HRD.out _ (hS.sub (by first | simp | ((repeat (first | exact List.nil_sublist _ | exact List.Sublist.refl _ | with_reducible apply List.Sublist.cons₂ | apply List.Sublist.cons)))))) | have hF := And.intro hS.facts (hR.at hS.ext) | have hF := hS.facts); simp only [HFacts, cellFacts, RFacts, cellOnly, and_true, true_and, Nat.zero_add, Nat.reduceAdd] at hF))) | fail)
      go_ret
      exact ⟨by rw [hf.out, Hn.out, List.drop_length]; rfl, hS.ext⟩
set_option maxRecDepth 100000 in
theorem icontainsFunc_any (l : List Int) (A : Option Addr) (n cap : Nat) (g : Nat) (lb : Array Value) (p : Int → Bool) (w : World) (hn : l.length = n) (hr : RI w A l) (hl : n ≤ 1000000) (eg : ∀ args w, (callFunc g args).run Tryz.prog w = .ok (.enter g args) w) (hp : PredI w g lb p) :
    Calls Tryz.prog 64 #[.slice A n cap, .func (.func g) #[] lb] w fun e w' => e = .returned (.bool (l.any p)) ∧ Ext w w' := by
  have hI := fun (W : World) (hx : Ext w W) => iindexFunc_any l A n cap g lb p W hn (hr.ext hx) hl eg (fun W' hx' => hp W' (hx.trans hx'))
  have HI := Lib.hid hI
  have HA := Lib.hid (idxI_any p l 0)
  clear hI hr hp
  have hS := Hp.init w
  have hR := Reads.nil w
  go_enter Tryz.func64, Tryz.ntmps64
  go_wp2_with (first | ((with_reducible first | refine nhLa ?_ | refine nhLs ?_ | refine nhLd ?_ | refine nhCa ?_ | refine nhCs ?_ | refine nhCd ?_ | refine nhPa ?_ | refine nhPs ?_ | refine nhPd ?_ | refine nhKa ?_ | refine nhKs ?_ | refine nhKd ?_); ((try clear hF); clear hS; intro wk hS; (try simp only [List.set_cons_zero, List.set_cons_succ, heap_size, heap_set_size] at hS); ((try clear hF); (first | have hF := And.intro hS.facts (HRD.out _ (hS.sub (by first | simp | ((repeat (first | exact List.nil_sublist _ | exact List.Sublist.refl _ | with_reducible apply List.Sublist.cons₂ | apply List.Sublist.cons)))))) | have hF := And.intro hS.facts (hR.at hS.ext) | have hF := hS.facts); simp only [HFacts, cellFacts, RFacts, cellOnly, and_true, true_and, Nat.zero_add, Nat.reduceAdd] at hF))) | (go_at_call 89; (with_reducible refine (HI.out _ hS.ext).mono ?_); rintro e wk ⟨rfl, hX⟩; replace hS := hS.step hX; clear hX; ((try clear hF); (first | have hF := And.intro hS.facts (HRD.out _ (hS.sub (by first | simp | ((repeat (first | exact List.nil_sublist _ | exact List.Sublist.refl _ | with_reducible apply List.Sublist.cons₂ | apply List.Sublist.cons)))))) | have hF := And.intro hS.facts (hR.at hS.ext) | have hF := hS.facts); simp only [HFacts, cellFacts, RFacts, cellOnly, and_true, true_and, Nat.zero_add, Nat.reduceAdd] at hF)))
  go_ret
  exact ⟨by rw [HA.out]; first | done | rfl, hS.ext⟩
end Go.Proofs.YtcpnnffnkegamaaGreatDoor

/- pick: a number below another one. -/
namespace Go.Proofs.YtcpnnffnkegamaaGreatDoor
set_option linter.all false
set_option linter.unusedSimpArgs false
set_option linter.unusedVariables false
open Go.RowKit
theorem pick_any (a n : Int) (w : World) (h0 : 0 < n) (h1 : n ≤ 9223372036854775807) :
    Calls Tryz.prog 18 #[.int .i64 a, .int .i64 n] w fun e w' => (∃ m : Int, e = .returned (.int .i64 m) ∧ 0 ≤ m ∧ m < n) ∧ Ext w w' := by
  have hS := Hp.init w
  have hR := Reads.nil w
  go_enter Tryz.func18, Tryz.ntmps18
  go_wp2_with (first | ((with_reducible first | refine nhLa ?_ | refine nhLs ?_ | refine nhLd ?_ | refine nhCa ?_ | refine nhCs ?_ | refine nhCd ?_ | refine nhPa ?_ | refine nhPs ?_ | refine nhPd ?_ | refine nhKa ?_ | refine nhKs ?_ | refine nhKd ?_); ((try clear hF); clear hS; intro wk hS; (try simp only [List.set_cons_zero, List.set_cons_succ, heap_size, heap_set_size] at hS); ((try clear hF); (first | have hF := And.intro hS.facts (HRD.out _ (hS.sub (by first | simp | ((repeat (first | exact List.nil_sublist _ | exact List.Sublist.refl _ | with_reducible apply List.Sublist.cons₂ | apply List.Sublist.cons)))))) | have hF := And.intro hS.facts (hR.at hS.ext) | have hF := hS.facts); simp only [HFacts, cellFacts, RFacts, cellOnly, and_true, true_and, Nat.zero_add, Nat.reduceAdd] at hF))) | fail)
  have u0 : 0 ≤ IntKind.u64.wrap a := by rw [IntKind.wrap_u64]; omega
  have t0 := Int.tmod_nonneg n u0
  have t1 := Int.tmod_lt_of_pos (IntKind.u64.wrap a) h0
  have e : wrap64 ((IntKind.u64.wrap a).tmod n) = (IntKind.u64.wrap a).tmod n := by unfold wrap64; omega
  go_ret
  exact ⟨⟨_, rfl, by rw [e]; exact t0, by rw [e]; exact t1⟩, hS.ext⟩
end Go.Proofs.YtcpnnffnkegamaaGreatDoor

/- strings.SplitSeq at a mark of one byte: what it hands back is a range over the pieces, in their order. -/
namespace Go.Proofs.YtcpnnffnkegamaaGreatDoor
set_option linter.unusedSimpArgs false
set_option linter.unusedVariables false
open Go.RowKit
set_option linter.all false
attribute [local go_sem] Oper.semAt_some
def cutS (mk : UInt8) : Nat → ByteArray → List ByteArray
  | 0, s => [s]
  | n + 1, s => if Lib.indexByte s.data.toList mk < 0 then [s] else s.extract 0 (Lib.indexByte s.data.toList mk).toNat :: cutS mk n (s.extract ((Lib.indexByte s.data.toList mk).toNat + 1) s.size)
theorem idx_lt {s : ByteArray} {mk : UInt8} (h : ¬ Lib.indexByte s.data.toList mk < 0) : (Lib.indexByte s.data.toList mk).toNat < s.size := by
  obtain ⟨m, hm⟩ := Int.eq_ofNat_of_zero_le (Int.not_lt.1 h)
  have := (List.getElem?_eq_some_iff.1 (Lib.indexByte_some hm).1).1
  rw [hm]
  simpa using this
theorem cutS_fuel (mk : UInt8) : ∀ (n m : Nat) (s : ByteArray), s.size ≤ n → s.size ≤ m → cutS mk n s = cutS mk m s
  | 0, 0, s, _, _ => rfl
  | 0, m + 1, s, h, _ => by
    by_cases h0 : Lib.indexByte s.data.toList mk < 0
    · rw [cutS, cutS, if_pos h0]
    · have := idx_lt h0; omega
  | n + 1, 0, s, _, h => by
    by_cases h0 : Lib.indexByte s.data.toList mk < 0
    · rw [cutS, cutS, if_pos h0]
    · have := idx_lt h0; omega
  | n + 1, m + 1, s, h, k => by
    by_cases h0 : Lib.indexByte s.data.toList mk < 0
    · rw [cutS, cutS, if_pos h0, if_pos h0]
    · rw [cutS, cutS, if_neg h0, if_neg h0, cutS_fuel mk n m _ (by rw [ByteArray.size_extract]; omega) (by rw [ByteArray.size_extract]; omega)]
/-- a text, cut at each mark -/
def piecesS (mk : UInt8) (s : ByteArray) : List ByteArray := cutS mk s.size s
theorem piecesS_step (mk : UInt8) (s : ByteArray) : piecesS mk s = if Lib.indexByte s.data.toList mk < 0 then [s] else s.extract 0 (Lib.indexByte s.data.toList mk).toNat :: piecesS mk (s.extract ((Lib.indexByte s.data.toList mk).toNat + 1) s.size) := by
  by_cases h0 : Lib.indexByte s.data.toList mk < 0
  · rw [if_pos h0]
    unfold piecesS
    cases hz : s.size with
    | zero => rfl
    | succ n => rw [cutS, if_pos h0]
  · rw [if_neg h0]
    have hl := idx_lt h0
    have e := cutS_fuel mk s.size (s.size - 1 + 1) s (Nat.le_refl _) (by omega)
    unfold piecesS
    rw [e, cutS, if_neg h0, cutS_fuel mk (s.size - 1) _ _ (by rw [ByteArray.size_extract]; omega) (Nat.le_refl _)]
theorem boxed_below {w W : World} {b : Nat} {t : TypeId} {v : Value} (hW : Below w.heap.size w W) (h : Boxed w b t v) : Boxed W b t v := (hW.block b h.lt).trans h
theorem boxed_other {W : World} {b k : Nat} {t : TypeId} {v u : Value} (h : Boxed W k t v) (hne : k ≠ b) : Boxed (W.setCell ⟨b, 0, none⟩ u) k t v := (setCell_other hne).trans h
set_option maxRecDepth 100000 in
set_option maxHeartbeats 8000000 in
theorem split_any (s sep : ByteArray) (w : World) :
    Calls Tryz.prog 51 #[.string s, .string sep] w fun e w' => ∃ bs bp bz : Nat, e = .returned (.func (.func 100) #[] #[.pointer (some ⟨bp, 0, none⟩), .pointer (some ⟨bs, 0, none⟩), .pointer (some ⟨bz, 0, none⟩)]) ∧ Hp w.heap.size w w' [.blk bz [.int .i64 0] 3, .blk bp [.string sep] 9, .blk bs [.string s] 9] := by
  have H2 : ∀ (W : World), Calls Tryz.prog 76 #[.string s, .string sep, .int .i64 0] W fun e w' => ∃ bs bp bz : Nat, e = .returned (.func (.func 100) #[] #[.pointer (some ⟨bp, 0, none⟩), .pointer (some ⟨bs, 0, none⟩), .pointer (some ⟨bz, 0, none⟩)]) ∧ Hp W.heap.size W w' [.blk bz [.int .i64 0] 3, .blk bp [.string sep] 9, .blk bs [.string s] 9] := by
    intro W
    have hS := Hp.init W
    have hR := Reads.nil W
    go_enter Tryz.func76, Tryz.ntmps76
    go_wp2_with (first | ((with_reducible first | refine nhLa ?_ | refine nhLs ?_ | refine nhLd ?_ | refine nhCa ?_ | refine nhCs ?_ | refine nhCd ?_ | refine nhPa ?_ | refine nhPs ?_ | refine nhPd ?_ | refine nhKa ?_ | refine nhKs ?_ | refine nhKd ?_); ((try clear hF); clear hS; intro wk hS; (try simp only [List.set_cons_zero, List.set_cons_succ, heap_size, heap_set_size] at hS); ((try clear hF); (first | have hF := And.intro hS.facts (HRD.out _ (hS.sub (by first | simp | ((repeat (first | exact List.nil_sublist _ | exact List.Sublist.refl _ | with_reducible apply List.Sublist.cons₂ | apply List.Sublist.cons)))))) | have hF := And.intro hS.facts (hR.at hS.ext) | have hF := hS.facts); simp only [HFacts, cellFacts, RFacts, cellOnly, and_true, true_and, Nat.zero_add, Nat.reduceAdd] at hF))) | fail)
    go_ret
    exact ⟨_, _, _, rfl, hS⟩
  have hS := Hp.init w
  have hR := Reads.nil w
  go_enter Tryz.func51, Tryz.ntmps51
  go_wp2_with (first | ((with_reducible first | refine nhLa ?_ | refine nhLs ?_ | refine nhLd ?_ | refine nhCa ?_ | refine nhCs ?_ | refine nhCd ?_ | refine nhPa ?_ | refine nhPs ?_ | refine nhPd ?_ | refine nhKa ?_ | refine nhKs ?_ | refine nhKd ?_); ((try clear hF); clear hS; intro wk hS; (try simp only [List.set_cons_zero, List.set_cons_succ, heap_size, heap_set_size] at hS); ((try clear hF); (first | have hF := And.intro hS.facts (HRD.out _ (hS.sub (by first | simp | ((repeat (first | exact List.nil_sublist _ | exact List.Sublist.refl _ | with_reducible apply List.Sublist.cons₂ | apply List.Sublist.cons)))))) | have hF := And.intro hS.facts (hR.at hS.ext) | have hF := hS.facts); simp only [HFacts, cellFacts, RFacts, cellOnly, and_true, true_and, Nat.zero_add, Nat.reduceAdd] at hF))) | (go_at_call 76; (with_reducible refine Calls.mono (H2 _) ?_); rintro e wk ⟨bs, bp, bz, rfl, hS2⟩; replace hS := hS.join hS2; clear hS2; ((try clear hF); (first | have hF := And.intro hS.facts (HRD.out _ (hS.sub (by first | simp | ((repeat (first | exact List.nil_sublist _ | exact List.Sublist.refl _ | with_reducible apply List.Sublist.cons₂ | apply List.Sublist.cons)))))) | have hF := And.intro hS.facts (hR.at hS.ext) | have hF := hS.facts); simp only [HFacts, cellFacts, RFacts, cellOnly, and_true, true_and, Nat.zero_add, Nat.reduceAdd] at hF)))
  go_ret
  exact ⟨_, _, _, rfl, hS⟩
set_option maxRecDepth 100000 in
set_option maxHeartbeats 8000000 in
theorem split1_box (n : Nat) (hn : 1 ≤ n) (bs bp bz : Nat) (hp : bp ≠ bs) (hz : bz ≠ bs) (c : UInt8) (s : ByteArray) (hs : s.size ≤ 1000000) (w : World)
    (h1 : Boxed w bp 9 (.string ⟨#[c]⟩)) (h2 : Boxed w bs 9 (.string s)) (h3 : Boxed w bz 3 (.int .i64 0)) :
    SeqBox Fence.wide n Tryz.prog 100 #[.pointer (some ⟨bp, 0, none⟩), .pointer (some ⟨bs, 0, none⟩), .pointer (some ⟨bz, 0, none⟩)] bs [bp, bs, bz] Value.string (piecesS c s) w := by
  intro l J W hW hJs hY h0
  replace h1 := boxed_below hW h1
  replace h2 := boxed_below hW h2
  replace h3 := boxed_below hW h3
  have hc1 : (⟨#[c]⟩ : ByteArray).size = 1 := rfl
  refine callsIn_of_wp Tryz.func100 rfl trivial ?_ rfl
  simp only [Tryz.ntmps100, List.size_toArray, List.length_cons, List.length_nil, Nat.reduceAdd, Nat.reduceSub, Array.replicate_succ, Array.replicate_zero, List.push_toArray, List.append_toArray, List.nil_append, List.cons_append]
  have a1 := h1.cell
  have a2 := h2.cell
  have a3 := h3.cell
  gi_wp2
  gi_loopw [7] (fun _ wr => ∃ (k : Nat) (s' : ByteArray), Hid (k + (piecesS c s').length = (piecesS c s).length ∧ ∀ j x, (piecesS c s')[j]? = some x → (piecesS c s)[k + j]? = some x) ∧ s'.size ≤ 1000000 ∧ J k wr ∧ Boxed wr bp 9 (.string ⟨#[c]⟩) ∧ Boxed wr bs 9 (.string s') ∧ Boxed wr bz 3 (.int .i64 0))
    (fun _ wr => match wr.cell? ⟨bs, 0, none⟩ with | some (.string t) => t.size | _ => 0)
  case atStart => exact ⟨0, s, Lib.hid ⟨by omega, fun j x h => by rwa [Nat.zero_add]⟩, hs, h0, h1, h2, h3⟩
  case round =>
    clear h0 h1 h2 h3 a1 a2 a3 hW
    obtain ⟨k, s', HP, hs', hJ, h1, h2, h3⟩ := hrel
    have a1 := h1.cell
    have a2 := h2.cell
    have a3 := h3.cell
    have HST := Lib.hid (piecesS_step c s')
    obtain ⟨i, hi⟩ : ∃ i, Lib.indexByte s'.data.toList c = i := ⟨_, rfl⟩
    have HI := Lib.hid (fun (X : World) => show Calls Tryz.prog 74 #[.string s', .string ⟨#[c]⟩] X fun e w' => e = .returned (.int .i64 i) ∧ w' = X from by rw [← hi]; exact Tryz.strings_Index_one s' c X)
    by_cases hneg : i < 0
    · have hx := HP.out.2 0 s' (by rw [HST.out, if_pos (by rw [hi]; exact hneg)]; rfl)
      have hl : k + 1 = (piecesS c s).length := by rw [← HP.out.1, HST.out, if_pos (by rw [hi]; exact hneg)]; rfl
      obtain ⟨fn, tmps, assign, body, hy, hR⟩ := hY k s' _ hJ hx
      clear hY hi HST HP hx
      gi_wp2_with (refine ⟨trivial, ?_⟩; gi_at_call 74; refine CallsIn.mono (open_wide.calls (HI.out _)) ?_; rintro e wk ⟨rfl, rfl⟩)
      refine hR.mono ?_
      rintro e W3 ⟨rfl, hJ3, hk3⟩
      gi_wp2
      go_end0
      exact ⟨⟨_, rfl⟩, by rw [← hl]; exact hJ3⟩
    · obtain ⟨m, rfl⟩ := Int.eq_ofNat_of_zero_le (Int.not_lt.1 hneg)
      have hm : m < s'.size := by have := idx_lt (s := s') (mk := c) (by rw [hi]; exact hneg); rw [hi] at this; simpa using this
      have HS2 := Lib.hid (show piecesS c s' = s'.extract 0 m :: piecesS c (s'.extract (m + 1) s'.size) by rw [HST.out, if_neg (by rw [hi]; exact hneg), hi]; simp)
      have hx := HP.out.2 0 (s'.extract 0 m) (by rw [HS2.out]; rfl)
      have HP2 := Lib.hid (show (k + 1) + (piecesS c (s'.extract (m + 1) s'.size)).length = (piecesS c s).length ∧ ∀ j x, (piecesS c (s'.extract (m + 1) s'.size))[j]? = some x → (piecesS c s)[k + 1 + j]? = some x by
        refine ⟨by have := HP.out.1; rw [HS2.out, List.length_cons] at this; omega, fun j x h => ?_⟩
        rw [show k + 1 + j = k + (j + 1) by omega]
        exact HP.out.2 (j + 1) x (by rw [HS2.out]; simpa using h))
      obtain ⟨fn, tmps, assign, body, hy, hR⟩ := hY k _ _ hJ hx
      have hz2 : (s'.extract (m + 1) s'.size).size = s'.size - (m + 1) := by rw [ByteArray.size_extract]; omega
      have hw0 : IntKind.i64.wrap (m : Int) = (m : Int) := IntWalk.i64_in _ (by omega)
      have hw1 : IntKind.i64.wrap ((m : Int) + 1) = ((m + 1 : Nat) : Int) := by rw [IntWalk.i64_in _ (by omega)]; omega
      clear hY hi HST HP hx HS2
      gi_wp2_with (refine ⟨trivial, ?_⟩; gi_at_call 74; refine CallsIn.mono (open_wide.calls (HI.out _)) ?_; rintro e wk ⟨rfl, rfl⟩)
      refine hR.mono ?_
      rintro e W3 ⟨rfl, hJ3, hk3⟩
      have A2 := Lib.hid h2.cell
      replace h1 := hk3 bp (by simp) _ _ h1
      replace h2 := hk3 bs (by simp) _ _ h2
      replace h3 := hk3 bz (by simp) _ _ h3
      clear a1 a2 a3
      have a1 := h1.cell
      have a2 := h2.cell
      have a3 := h3.cell
      have f2 := h2.frozen
      gi_wp2
      go_roundw
      case rel => exact ⟨k + 1, _, HP2, by omega, hJs _ _ _ hJ3, boxed_other h1 hp, h2.set _, boxed_other h3 hz⟩
      case measure =>
        rw [(Boxed.set (.string (s'.extract (m + 1) s'.size)) h2).cell, A2.out]
        show (s'.extract (m + 1) s'.size).size < s'.size
        omega
end Go.Proofs.YtcpnnffnkegamaaGreatDoor

/- Contracts of the library, laid by program (strconv.ParseInt, FormatInt). -/
namespace Go.Proofs
set_option linter.all false
open Go.Shelf
def Tryz.laysM173_ren : Go.Shelf.Ren := ⟨fun | 173 => 78 | 246 => 79 | 283 => 102 | 284 => 103 | 285 => 104 | 286 => 105 | 129 => 121 | 317 => 130 | 318 => 131 | 319 => 132 | 320 => 133 | 337 => 148 | 338 => 149 | n => n, fun | 2 => 2 | 3 => 3 | 9 => 9 | 4 => 4 | 171 => 151 | 0 => 0 | 53 => 152 | 37 => 132 | 5 => 5 | 173 => 155 | 212 => 177 | 51 => 168 | 20 => 20 | 213 => 178 | 46 => 86 | 232 => 205 | 233 => 206 | n => n, fun | 17 => 2 | 18 => 7 | 19 => 8 | n => n⟩
theorem Tryz.laysM173 : Go.Proofs.LaysM.n173 Tryz.prog Tryz.laysM173_ren := {
  mixed := by kernel_rfl
  f129 := Tryz.func121.trans (congrArg some (by kernel_rfl))
  f173 := Tryz.func78.trans (congrArg some (by kernel_rfl))
  f246 := Tryz.func79.trans (congrArg some (by kernel_rfl))
  f283 := Tryz.func102.trans (congrArg some (by kernel_rfl))
  f284 := Tryz.func103.trans (congrArg some (by kernel_rfl))
  f285 := Tryz.func104.trans (congrArg some (by kernel_rfl))
  f286 := Tryz.func105.trans (congrArg some (by kernel_rfl))
  f317 := Tryz.func130.trans (congrArg some (by kernel_rfl))
  f318 := Tryz.func131.trans (congrArg some (by kernel_rfl))
  f319 := Tryz.func132.trans (congrArg some (by kernel_rfl))
  f320 := Tryz.func133.trans (congrArg some (by kernel_rfl))
  f337 := Tryz.func148.trans (congrArg some (by kernel_rfl))
  f338 := Tryz.func149.trans (congrArg some (by kernel_rfl))
  t0 := Tryz.underlying0
  a0 := Tryz.isAgg0
  z0 := Tryz.sizeOf0
  v0 := Tryz.zeroValue0
  t2 := Tryz.underlying2
  a2 := Tryz.isAgg2
  z2 := Tryz.sizeOf2
  v2 := Tryz.zeroValue2
  t3 := Tryz.underlying3
  a3 := Tryz.isAgg3
  z3 := Tryz.sizeOf3
  v3 := Tryz.zeroValue3
  t4 := Tryz.underlying4
  a4 := Tryz.isAgg4
  z4 := Tryz.sizeOf4
  v4 := Tryz.zeroValue4
  t5 := Tryz.underlying5
  a5 := Tryz.isAgg5
  z5 := Tryz.sizeOf5
  v5 := Tryz.zeroValue5
  t9 := Tryz.underlying9
  a9 := Tryz.isAgg9
  z9 := Tryz.sizeOf9
  v9 := Tryz.zeroValue9
  t20 := Tryz.underlying20
  a20 := Tryz.isAgg20
  z20 := Tryz.sizeOf20
  v20 := Tryz.zeroValue20
  t37 := Tryz.underlying132
  a37 := Tryz.isAgg132
  z37 := Tryz.sizeOf132
  v37 := Tryz.zeroValue132
  t46 := Tryz.underlying86
  a46 := Tryz.isAgg86
  z46 := Tryz.sizeOf86
  v46 := Tryz.zeroValue86
  t51 := Tryz.underlying168
  a51 := Tryz.isAgg168
  z51 := Tryz.sizeOf168
  v51 := Tryz.zeroValue168
  t53 := Tryz.underlying152
  a53 := Tryz.isAgg152
  z53 := Tryz.sizeOf152
  v53 := Tryz.zeroValue152
  t171 := Tryz.underlying151
  a171 := Tryz.isAgg151
  z171 := Tryz.sizeOf151
  v171 := Tryz.zeroValue151
  t173 := Tryz.underlying155
  a173 := Tryz.isAgg155
  z173 := Tryz.sizeOf155
  v173 := Tryz.zeroValue155
  t212 := Tryz.underlying177
  a212 := Tryz.isAgg177
  z212 := Tryz.sizeOf177
  v212 := Tryz.zeroValue177
  t213 := Tryz.underlying178
  a213 := Tryz.isAgg178
  z213 := Tryz.sizeOf178
  t232 := Tryz.underlying205
  a232 := Tryz.isAgg205
  z232 := Tryz.sizeOf205
  v232 := Tryz.zeroValue205
  t233 := Tryz.underlying206
  a233 := Tryz.isAgg206
  z233 := Tryz.sizeOf206
  v233 := Tryz.zeroValue206
  g17 := by kernel_rfl
  g18 := by kernel_rfl
  g19 := by kernel_rfl
  i0 := by kernel_rfl
  i2 := by kernel_rfl
  i3 := by kernel_rfl
  i4 := by kernel_rfl
  i5 := by kernel_rfl
  i9 := by kernel_rfl
  i20 := by kernel_rfl
  i37 := by kernel_rfl
  i46 := by kernel_rfl
  i51 := by kernel_rfl
  i53 := by kernel_rfl
  i171 := by kernel_rfl
  i173 := by kernel_rfl
  i212 := by kernel_rfl
  i232 := by kernel_rfl
  i233 := by kernel_rfl
  m17 := by kernel_rfl
  m18 := by kernel_rfl
  m19 := by kernel_rfl }
open Go.RowKit Go.Sort Go.Lib in
/-- strconv.FormatInt: "FormatInt returns the string representation of i in the given base": AT BASE 10: i's decimal numeral, for every int64. (LAID: no walk: one application.) -/
theorem Tryz.strconv_FormatInt_10 (n : Int) (h0 : -9223372036854775808 ≤ n) (h1 : n ≤ 9223372036854775807) (w : World) (htab : Lib.TabIs Tryz.prog w "internal/strconv.uint64pow10" .u64 Lib.pow10Tab) :
    Calls Tryz.prog 78 #[.int .i64 n, .int .i64 10] w fun e w' => e = .returned (.string ⟨(Lib.itoa n).toArray⟩) ∧ ∃ k os, w' = grow (w.drewN k) os := Any.strconv_FormatInt_10 Tryz.laysM173 n h0 h1 w htab
def Tryz.laysC174_ren : Go.Shelf.Ren := ⟨fun | 174 => 77 | 247 => 101 | 245 => 99 | 287 => 129 | 279 => 125 | 280 => 126 | 281 => 127 | 282 => 128 | 321 => 146 | 322 => 147 | 316 => 144 | 171 => 32 | 205 => 145 | 243 => 53 | 246 => 79 | 283 => 102 | 284 => 103 | 285 => 104 | 286 => 105 | 129 => 121 | 317 => 130 | 318 => 131 | 319 => 132 | 320 => 133 | 337 => 148 | 338 => 149 | n => n, fun | 9 => 9 | 3 => 3 | 2 => 2 | 75 => 37 | 85 => 128 | 4 => 4 | 167 => 170 | 5 => 5 | 53 => 152 | 175 => 174 | 46 => 86 | 168 => 171 | 37 => 132 | 0 => 0 | 210 => 196 | 21 => 21 | 127 => 157 | 145 => 204 | 143 => 202 | 171 => 151 | 173 => 155 | 212 => 177 | 51 => 168 | 20 => 20 | 213 => 178 | 232 => 205 | 233 => 206 | 80 => 136 | n => n, fun | 15 => 5 | 16 => 6 | 17 => 2 | 18 => 7 | 19 => 8 | n => n⟩
theorem Tryz.laysC174 : Go.Proofs.LaysC.n174 Tryz.prog Tryz.laysC174_ren := {
  mixed := by kernel_rfl
  f129 := Tryz.func121.trans (congrArg some (by kernel_rfl))
  f171 := Tryz.func32.trans (congrArg some (by kernel_rfl))
  f174 := Tryz.func77.trans (congrArg some (by kernel_rfl))
  f205 := Tryz.func145.trans (congrArg some (by kernel_rfl))
  f243 := Tryz.func53.trans (congrArg some (by kernel_rfl))
  f245 := Tryz.func99.trans (congrArg some (by kernel_rfl))
  f246 := Tryz.func79.trans (congrArg some (by kernel_rfl))
  f247 := Tryz.func101.trans (congrArg some (by kernel_rfl))
  f279 := Tryz.func125.trans (congrArg some (by kernel_rfl))
  f280 := Tryz.func126.trans (congrArg some (by kernel_rfl))
  f281 := Tryz.func127.trans (congrArg some (by kernel_rfl))
  f282 := Tryz.func128.trans (congrArg some (by kernel_rfl))
  f283 := Tryz.func102.trans (congrArg some (by kernel_rfl))
  f284 := Tryz.func103.trans (congrArg some (by kernel_rfl))
  f285 := Tryz.func104.trans (congrArg some (by kernel_rfl))
  f286 := Tryz.func105.trans (congrArg some (by kernel_rfl))
  f287 := Tryz.func129.trans (congrArg some (by kernel_rfl))
  f316 := Tryz.func144.trans (congrArg some (by kernel_rfl))
  f317 := Tryz.func130.trans (congrArg some (by kernel_rfl))
  f318 := Tryz.func131.trans (congrArg some (by kernel_rfl))
  f319 := Tryz.func132.trans (congrArg some (by kernel_rfl))
  f320 := Tryz.func133.trans (congrArg some (by kernel_rfl))
  f321 := Tryz.func146.trans (congrArg some (by kernel_rfl))
  f322 := Tryz.func147.trans (congrArg some (by kernel_rfl))
  f337 := Tryz.func148.trans (congrArg some (by kernel_rfl))
  f338 := Tryz.func149.trans (congrArg some (by kernel_rfl))
  t0 := Tryz.underlying0
  a0 := Tryz.isAgg0
  z0 := Tryz.sizeOf0
  v0 := Tryz.zeroValue0
  t2 := Tryz.underlying2
  a2 := Tryz.isAgg2
  z2 := Tryz.sizeOf2
  v2 := Tryz.zeroValue2
  t3 := Tryz.underlying3
  a3 := Tryz.isAgg3
  z3 := Tryz.sizeOf3
  v3 := Tryz.zeroValue3
  t4 := Tryz.underlying4
  a4 := Tryz.isAgg4
  z4 := Tryz.sizeOf4
  v4 := Tryz.zeroValue4
  t5 := Tryz.underlying5
  a5 := Tryz.isAgg5
  z5 := Tryz.sizeOf5
  v5 := Tryz.zeroValue5
  t9 := Tryz.underlying9
  a9 := Tryz.isAgg9
  z9 := Tryz.sizeOf9
  v9 := Tryz.zeroValue9
  t20 := Tryz.underlying20
  a20 := Tryz.isAgg20
  z20 := Tryz.sizeOf20
  v20 := Tryz.zeroValue20
  t21 := Tryz.underlying21
  a21 := Tryz.isAgg21
  z21 := Tryz.sizeOf21
  v21 := Tryz.zeroValue21
  t37 := Tryz.underlying132
  a37 := Tryz.isAgg132
  z37 := Tryz.sizeOf132
  v37 := Tryz.zeroValue132
  t46 := Tryz.underlying86
  a46 := Tryz.isAgg86
  z46 := Tryz.sizeOf86
  v46 := Tryz.zeroValue86
  t51 := Tryz.underlying168
  a51 := Tryz.isAgg168
  z51 := Tryz.sizeOf168
  v51 := Tryz.zeroValue168
  t53 := Tryz.underlying152
  a53 := Tryz.isAgg152
  z53 := Tryz.sizeOf152
  v53 := Tryz.zeroValue152
  t75 := Tryz.underlying37
  a75 := Tryz.isAgg37
  z75 := Tryz.sizeOf37
  v75 := Tryz.zeroValue37
  t85 := Tryz.underlying128
  a85 := Tryz.isAgg128
  z85 := Tryz.sizeOf128
  v85 := Tryz.zeroValue128
  t127 := Tryz.underlying157
  a127 := Tryz.isAgg157
  z127 := Tryz.sizeOf157
  v127 := Tryz.zeroValue157
  t143 := Tryz.underlying202
  a143 := Tryz.isAgg202
  z143 := Tryz.sizeOf202
  v143 := Tryz.zeroValue202
  t145 := Tryz.underlying204
  a145 := Tryz.isAgg204
  z145 := Tryz.sizeOf204
  v145 := Tryz.zeroValue204
  t167 := Tryz.underlying170
  a167 := Tryz.isAgg170
  z167 := Tryz.sizeOf170
  v167 := Tryz.zeroValue170
  t168 := Tryz.underlying171
  a168 := Tryz.isAgg171
  z168 := Tryz.sizeOf171
  v168 := Tryz.zeroValue171
  t171 := Tryz.underlying151
  a171 := Tryz.isAgg151
  z171 := Tryz.sizeOf151
  v171 := Tryz.zeroValue151
  t173 := Tryz.underlying155
  a173 := Tryz.isAgg155
  z173 := Tryz.sizeOf155
  v173 := Tryz.zeroValue155
  t175 := Tryz.underlying174
  a175 := Tryz.isAgg174
  z175 := Tryz.sizeOf174
  v175 := Tryz.zeroValue174
  t210 := Tryz.underlying196
  a210 := Tryz.isAgg196
  z210 := Tryz.sizeOf196
  v210 := Tryz.zeroValue196
  t212 := Tryz.underlying177
  a212 := Tryz.isAgg177
  z212 := Tryz.sizeOf177
  v212 := Tryz.zeroValue177
  t213 := Tryz.underlying178
  a213 := Tryz.isAgg178
  z213 := Tryz.sizeOf178
  t232 := Tryz.underlying205
  a232 := Tryz.isAgg205
  z232 := Tryz.sizeOf205
  v232 := Tryz.zeroValue205
  t233 := Tryz.underlying206
  a233 := Tryz.isAgg206
  z233 := Tryz.sizeOf206
  v233 := Tryz.zeroValue206
  g15 := by kernel_rfl
  g16 := by kernel_rfl
  g17 := by kernel_rfl
  g18 := by kernel_rfl
  g19 := by kernel_rfl
  t80 := Tryz.underlying136
  a80 := Tryz.isAgg136
  z80 := Tryz.sizeOf136
  v80 := Tryz.zeroValue136
  i0 := by kernel_rfl
  i2 := by kernel_rfl
  i3 := by kernel_rfl
  i4 := by kernel_rfl
  i5 := by kernel_rfl
  i9 := by kernel_rfl
  i20 := by kernel_rfl
  i21 := by kernel_rfl
  i37 := by kernel_rfl
  i46 := by kernel_rfl
  i51 := by kernel_rfl
  i53 := by kernel_rfl
  i75 := by kernel_rfl
  i80 := by kernel_rfl
  i85 := by kernel_rfl
  i127 := by kernel_rfl
  i143 := by kernel_rfl
  i145 := by kernel_rfl
  i167 := by kernel_rfl
  i168 := by kernel_rfl
  i171 := by kernel_rfl
  i173 := by kernel_rfl
  i175 := by kernel_rfl
  i210 := by kernel_rfl
  i212 := by kernel_rfl
  i232 := by kernel_rfl
  i233 := by kernel_rfl
  m15 := by kernel_rfl
  m16 := by kernel_rfl
  m17 := by kernel_rfl
  m18 := by kernel_rfl
  m19 := by kernel_rfl
  c0 := by kernel_rfl
  c2 := by kernel_rfl
  c3 := by kernel_rfl
  c4 := by kernel_rfl
  c5 := by kernel_rfl
  c9 := by kernel_rfl
  c20 := by kernel_rfl
  c21 := by kernel_rfl
  c37 := by kernel_rfl
  c46 := by kernel_rfl
  c51 := by kernel_rfl
  c53 := by kernel_rfl
  c75 := by kernel_rfl
  c80 := by kernel_rfl
  c85 := by kernel_rfl
  c127 := by kernel_rfl
  c143 := by kernel_rfl
  c145 := by kernel_rfl
  c167 := by kernel_rfl
  c168 := by kernel_rfl
  c171 := by kernel_rfl
  c173 := by kernel_rfl
  c175 := by kernel_rfl
  c210 := by kernel_rfl
  c212 := by kernel_rfl
  c213 := by kernel_rfl
  c232 := by kernel_rfl
  c233 := by kernel_rfl }
open Go.RowKit in
/-- strconv.ParseInt(s, 10, 64), AT EVERY STRING THAT SPELLS AN int64 ('Lib.parseIntB 64 s.data.toList = .ok v'): v, AND NO ERROR. (LAID: no walk: one application.) -/
theorem Tryz.strconv_ParseInt_10_at64_ok (s : ByteArray) (hmax : s.size ≤ 9223372036854775806) (v : Int) (h : Lib.parseIntB 64 s.data.toList = .ok v) (w : World) :
    Calls Tryz.prog 77 #[.string s, .int .i64 10, .int .i64 64] w fun e w' => e = .returned (.tuple #[.int .i64 v, .nilIface]) ∧ (w' = w ∨ ∃ t, w' = Lib.bytesWorld w 5 t) := Any.strconv_ParseInt_10_at64_ok Tryz.laysC174 s hmax v h w
open Go.RowKit in
theorem Tryz.strconv_ParseInt_10_at64_syntax_var (s : ByteArray) (hlim : s.size ≤ 281474976710656) (h : Lib.parseIntB 64 s.data.toList = Lib.NumEnd.syntax) (tp : TypeId) (p : Value) (w : World) (hvar : w.var? Tryz.prog "strconv.ErrSyntax" = some #[.iface tp p]) :
    Calls Tryz.prog 77 #[.string s, .int .i64 10, .int .i64 64] w fun e w' => ∃ N, e = .returned (.tuple #[.int .i64 (0), .iface 171 (.pointer (some ⟨N, 0, none⟩))]) ∧ w.heap.size ≤ N ∧ w'.heap[N]? = some (.cells #[.string ⟨#[80, 97, 114, 115, 101, 73, 110, 116]⟩, .string s, .iface tp p] 196 (0, 0)) ∧ Below w.heap.size w w' := Any.strconv_ParseInt_10_at64_syntax_var Tryz.laysC174 s hlim h tp p w hvar
open Go.RowKit in
theorem Tryz.strconv_ParseInt_10_at64_range_var (s : ByteArray) (hlim : s.size ≤ 281474976710656) (h : Lib.parseIntB 64 s.data.toList = .range) (tp : TypeId) (p : Value) (w : World) (hvar : w.var? Tryz.prog "strconv.ErrRange" = some #[.iface tp p]) :
    Calls Tryz.prog 77 #[.string s, .int .i64 10, .int .i64 64] w fun e w' => ∃ N, e = .returned (.tuple #[.int .i64 (Lib.intSat 64 s.data.toList), .iface 171 (.pointer (some ⟨N, 0, none⟩))]) ∧ w.heap.size ≤ N ∧ w'.heap[N]? = some (.cells #[.string ⟨#[80, 97, 114, 115, 101, 73, 110, 116]⟩, .string s, .iface tp p] 196 (0, 0)) ∧ Below w.heap.size w w' := Any.strconv_ParseInt_10_at64_range_var Tryz.laysC174 s hlim h tp p w hvar
end Go.Proofs

/- numbers in letters: what ParseInt answers. -/
namespace Go.Proofs.YtcpnnffnkegamaaGreatDoor
set_option linter.unusedSimpArgs false
set_option linter.unusedVariables false
open Go.RowKit
set_option linter.all false
def itoS (n : Int) : ByteArray := ⟨(Lib.itoa n).toArray⟩
theorem pM_app (M : Nat) : ∀ (l : List UInt8) (acc : Nat) (m : List UInt8), Lib.parseUintM M acc (l ++ m) = (match Lib.parseUintM M acc l with | .ok a => Lib.parseUintM M a m | e => e)
  | [], acc, m => rfl
  | c :: l, acc, m => by
    rw [List.cons_append]
    simp only [Lib.parseUintM]
    split
    · split
      · rfl
      · split
        · rfl
        · exact pM_app M l _ m
    · rfl
theorem dig_nat {d : Nat} (h : d < 10) : (UInt8.ofNat (48 + d)).toNat = 48 + d := by
  rw [UInt8.toNat_ofNat']
  omega
theorem pM_dec (u : Nat) (hu : u < 18446744073709551616) : Lib.parseUintM (2 ^ 64 - 1) 0 (Lib.decDigits u) = .ok u := by
  rw [Lib.decDigits]
  split
  · rename_i h
    simp only [Lib.parseUintM]
    rw [dig_nat h, if_pos (by omega), if_neg (by omega), if_neg (by omega)]
    congr 1
    omega
  · rename_i h
    rw [pM_app, pM_dec (u / 10) (by omega)]
    simp only [Lib.parseUintM]
    rw [dig_nat (Nat.mod_lt u (by omega)), if_pos (by omega), if_neg (by omega), if_neg (by omega)]
    congr 1
    omega
termination_by u
theorem dec_cons (u : Nat) : ∃ c r, Lib.decDigits u = c :: r ∧ 48 ≤ c.toNat ∧ c.toNat ≤ 57 := by
  rw [Lib.decDigits]
  split
  · rename_i h
    exact ⟨_, _, rfl, by rw [dig_nat h]; omega, by rw [dig_nat h]; omega⟩
  · obtain ⟨c, r, h1, h2, h3⟩ := dec_cons (u / 10)
    exact ⟨c, r ++ _, by rw [h1]; rfl, h2, h3⟩
termination_by u
theorem parse_itoa (n : Int) (hn : i64 n) : Lib.parseIntB 64 (Lib.itoa n) = .ok n := by
  unfold i64 at hn
  unfold Lib.itoa
  split
  · rename_i h
    obtain ⟨c, r, h1, h2, h3⟩ := dec_cons n.natAbs
    have hp : Lib.parseUintB 64 (Lib.decDigits n.natAbs) = .ok n.natAbs := by
      unfold Lib.parseUintB
      rw [if_neg (by rw [h1]; simp), pM_dec _ (by omega)]
    simp only [Lib.parseIntB, show (45 : UInt8).toNat = 45 from rfl, or_true, if_true]
    rw [hp]
    simp only [not_true_eq_false, false_and, if_false, true_and, if_true]
    rw [if_neg (by omega)]
    congr 1
    omega
  · rename_i h
    obtain ⟨c, r, h1, h2, h3⟩ := dec_cons n.toNat
    have hp : Lib.parseUintB 64 (c :: r) = .ok n.toNat := by
      unfold Lib.parseUintB
      rw [if_neg (by simp), ← h1, pM_dec _ (by omega)]
    rw [h1]
    simp only [Lib.parseIntB]
    rw [if_neg (by omega), hp]
    simp only
    rw [if_neg (by omega), if_neg (by omega), if_neg (by omega)]
    congr 1
    omega
theorem parse_i64 {l : List UInt8} {v : Int} (h : Lib.parseIntB 64 l = .ok v) : i64 v := by
  unfold Lib.parseIntB at h
  unfold i64
  split at h
  · cases h
  · simp only at h
    split at h
    · cases h
    · cases h
    · rename_i u hu
      split at h
      · cases h
      · split at h
        · cases h
        · rename_i h1 h2
          injection h with h
          subst h
          split <;> omega
def numOf64 (s : ByteArray) : Option Int := match Lib.parseIntB 64 s.data.toList with
  | .ok v => if (itoS v).toList == s.toList then some v else none
  | _ => none
theorem ba_toList_loopN (bs : ByteArray) (i : Nat) (r : List UInt8) : ByteArray.toList.loop bs i r = r.reverse ++ bs.data.toList.drop i := by
  rw [ByteArray.toList.loop]
  split
  · rename_i h
    rw [ba_toList_loopN]
    have h2 : i < bs.data.toList.length := by simpa using h
    rw [List.drop_eq_getElem_cons h2]
    simp only [List.reverse_cons, List.append_assoc, List.cons_append, List.nil_append]
    congr 2
    simp only [ByteArray.get!, Array.getElem!_eq_getD, Array.getD]
    rw [dif_pos (show i < bs.data.size from h)]
    rfl
  · rename_i h
    rw [List.drop_eq_nil_of_le (by have : bs.data.toList.length = bs.size := by rw [Array.length_toList]; rfl
                                   omega)]
    simp
termination_by bs.size - i
theorem ba_toListN (bs : ByteArray) : bs.toList = bs.data.toList := by
  unfold ByteArray.toList
  rw [ba_toList_loopN]
  simp
theorem ba_beq {p q : ByteArray} : (p.toList == q.toList) = true ↔ p = q := by
  rw [beq_iff_eq, ba_toListN, ba_toListN]
  exact ⟨fun h => ByteArray.ext (Array.toList_inj.1 h), fun h => by rw [h]⟩
-- the library's two errors
def SynAt (w : World) : Prop := ∃ tp p, w.var? Tryz.prog "strconv.ErrSyntax" = some #[.iface tp p]
def RngAt (w : World) : Prop := ∃ tp p, w.var? Tryz.prog "strconv.ErrRange" = some #[.iface tp p]
theorem var_ext {w w' : World} {name : String} {g : Nat} {cs : Array Value} (hg : Tryz.prog.globalNamed name = some g) (h : w.var? Tryz.prog name = some cs) (hx : Ext w w') : w'.var? Tryz.prog name = some cs := by
  unfold World.var? at *
  rw [hg] at h ⊢
  simp only [Option.bind_some] at h ⊢
  have hlt : g < w.heap.size := by
    by_cases hc : g < w.heap.size
    · exact hc
    · rw [Array.getElem?_eq_none (by omega)] at h
      cases h
  rw [hx.block g hlt]
  exact h
theorem SynAt.ext {w w' : World} (h : SynAt w) (hx : Ext w w') : SynAt w' := by
  obtain ⟨tp, p, h⟩ := h
  exact ⟨tp, p, var_ext (g := 5) (by kernel_rfl) h hx⟩
theorem RngAt.ext {w w' : World} (h : RngAt w) (hx : Ext w w') : RngAt w' := by
  obtain ⟨tp, p, h⟩ := h
  exact ⟨tp, p, var_ext (g := 6) (by kernel_rfl) h hx⟩
theorem ext_bytes {w w' : World} {e : TypeId} (h : w' = w ∨ ∃ t, w' = Lib.bytesWorld w e t) : Ext w w' := by
  rcases h with rfl | ⟨t, rfl⟩
  · exact Ext.refl _
  · exact Go.Joins.below_bytesWorld _ _ _ _ (Nat.le_refl _)
/-- how ParseInt ends -/
theorem parseInt_any (s : ByteArray) (hs : s.size ≤ 1000000) (w : World) (hy : SynAt w) (hr : RngAt w) :
    Calls Tryz.prog 77 #[.string s, .int .i64 10, .int .i64 64] w fun e w' => (∃ (n : Int) (er : Value), e = .returned (.tuple #[.int .i64 n, er]) ∧ ((er = .nilIface ∧ Lib.parseIntB 64 s.data.toList = .ok n) ∨ (∃ tp pv, er = .iface tp pv) ∧ numOf64 s = none)) ∧ Ext w w' := by
  match h : Lib.parseIntB 64 s.data.toList with
  | .ok v => exact (Tryz.strconv_ParseInt_10_at64_ok s (by omega) v h w).mono fun e w' ⟨h1, h2⟩ => ⟨⟨v, .nilIface, h1, .inl ⟨rfl, rfl⟩⟩, ext_bytes h2⟩
  | Lib.NumEnd.syntax =>
    obtain ⟨tp, p, hy⟩ := hy
    exact (Tryz.strconv_ParseInt_10_at64_syntax_var s (by omega) h tp p w hy).mono fun e w' ⟨N, h1, _, _, h2⟩ => ⟨⟨0, _, h1, .inr ⟨⟨_, _, rfl⟩, by unfold numOf64; rw [h]⟩⟩, h2⟩
  | .range =>
    obtain ⟨tp, p, hr⟩ := hr
    exact (Tryz.strconv_ParseInt_10_at64_range_var s (by omega) h tp p w hr).mono fun e w' ⟨N, h1, _, _, h2⟩ => ⟨⟨_, _, h1, .inr ⟨⟨_, _, rfl⟩, by unfold numOf64; rw [h]⟩⟩, h2⟩
/-- the number that letters are -/
def int64 (s : ByteArray) : Option Int := match Lib.parseIntB 64 s.data.toList with
  | .ok v => some v
  | _ => none
end Go.Proofs.YtcpnnffnkegamaaGreatDoor
