/- Texts joined: value.itoa: it writes a number in decimal digits. value.Print, value.Right: what each call answers; the world has at most new blocks. A region whose operations only compute, read what stays as it was, or call what leaves all as it was: walked once, in the order of the text, whatever order is drawn. For any program. A region under St, whether its order is drawn or not: walked once in the order of the text; guards may be open. For any program. What a call owns, in general: blocks whose cells are known, slices that it builds; each apart from the others; kept over allocations, stores, appends, calls. For any program. numbers in letters: what ParseInt answers. lists of letters: numbers, cuts, trims: plain. A region of quiet operations, of new blocks, and of a tail that waits for them: walked in the order of the text, whatever order is drawn. For any program. -/
import Derived.Test.YtlgidjanmaijaaaGreatDoorProg
import Derived.Test.YtlgidjanmaijaaaGreatDoorCX01
import Derived.BigQuiet
import Derived.Orders
import Derived.Lib.AppendStr
import Derived.Laws.MakeOwn
import Derived.Lib.SmallJoins
import Derived.Lib.SlTrimSet
/- value.itoa: it writes a number in decimal digits. -/
namespace Go.Proofs.YtlgidjanmaijaaaGreatDoor
set_option linter.all false
set_option linter.unusedSimpArgs false
set_option linter.unusedVariables false
open Go.RowKit
/-- the digits of a number, the least one first -/
def revDig (u : Nat) : List UInt8 := UInt8.ofNat (48 + u % 10) :: (if u / 10 = 0 then [] else revDig (u / 10))
termination_by u
decreasing_by omega
def B8 (c : UInt8) : Value := .int .u8 (c.toNat : Int)
theorem Tryz.elem_bytes : Elem Tryz.prog 47 5 1 1 := by
  obtain ⟨i0, hi0, hz0, hz1, hz2⟩ := info_parts (show (Tryz.prog.info? 5).map (fun i => (i.zero, i.size, i.bytes)) = some (some (.int .u8 0), 1, 1) by kernel_rfl)
  exact ⟨Tryz.underlying47, ⟨i0, _, hi0, hz0, hz1, hz2, rfl⟩, by omega⟩
theorem revDig_len (k : Nat) : ∀ u, u < 10 ^ k → (revDig u).length ≤ k + 1 := by
  induction k with
  | zero => intro u h; rw [revDig]; simp at h; subst h; simp
  | succ k ih =>
    intro u h
    rw [revDig]
    by_cases h0 : u / 10 = 0
    · simp [h0]
    · have := ih (u / 10) (by rw [Nat.pow_succ] at h; omega)
      simp [h0]; exact this
theorem revDig_last (m : Nat) (h : m / 10 = 0) : revDig m = [UInt8.ofNat (48 + m % 10)] := by rw [revDig]; simp [h]
theorem revDig_step (m : Nat) (h : m / 10 ≠ 0) : revDig m = UInt8.ofNat (48 + m % 10) :: revDig (m / 10) := by rw [revDig]; simp [h]
theorem dig_cell (m : Nat) : Value.int .u8 (48 + (m : Int) % 10) = B8 (UInt8.ofNat (48 + m % 10)) := by
  unfold B8
  congr 1
  rw [UInt8.toNat_ofNat']
  omega

/-- the letters of a number -/
def itoaL (n : Int) : List UInt8 := (revDig n.natAbs ++ if n < 0 then [45] else []).reverse
def itoaS (n : Int) : ByteArray := ⟨(itoaL n).toArray⟩
theorem negU (n : Int) (h0 : n < 0) (h1 : -9223372036854775808 ≤ n) : Value.int .u64 (IntKind.u64.wrap (-IntKind.u64.wrap n)) = .int .u64 (n.natAbs : Int) := by
  congr 1
  simp [IntKind.wrap, IntKind.bits, IntKind.signed]
  omega

def ItoaRel (B u0 : Nat) (w : World) (b u : Value) (wr : World) : Prop :=
  ∃ (pre : List UInt8) (m : Nat), u = .int .u64 m ∧ m ≤ u0 ∧ Mk B w wr 5 1 b pre.length (pre.map B8) ∧ pre ++ revDig m = revDig u0

set_option maxHeartbeats 8000000 in
theorem itoa_pos (n : Int) (w : World) (h0 : 0 ≤ n) (h1 : n ≤ 9223372036854775807) :
    Calls Tryz.prog 102 #[.int .i64 n] w fun e w' => e = .returned (.string (itoaS n)) ∧ Ext w w' := by
  go_enter Tryz.func102, Tryz.ntmps102
  go_wp2
  go_loopw [3, 4] (fun b u wr => ItoaRel w.heap.size n.natAbs w b u wr) (fun _ u _ => (intOf u).toNat)
  case atStart => exact ⟨[], n.natAbs, by rw [Int.natAbs_of_nonneg h0], Nat.le_refl _, Mk.nil (Below.refl _ _) (Nat.le_refl _), rfl⟩
  case round =>
    obtain ⟨pre, m, rfl, hm, hM, hpre⟩ := hrel
    have hl : pre.length ≤ 25 := by
      have := congrArg List.length hpre
      have := revDig_len 20 n.natAbs (by omega)
      simp at *; omega
    have Hp := Lib.hid hpre; clear hpre
    have hm3 : (m : Int) ≤ 9223372036854775807 := by omega
    by_cases hz : m / 10 = 0
    · have b1 : ((m : Int) / 10 == 0) = true := by simp; omega
      clear hz
      go_wp2_with (at_builtin; refine wpList_push Tryz.elem_bytes rfl (.tmp 12) (.tmp 17) rfl [.int .u8 (48 + (m : Int) % 10)] hM _ rfl rfl rfl rfl (by simp [Value.oneCell']) (by omega) (by omega) ?_; intro g cap w1 hM1 _ _)
      rw [dig_cell] at hM1
      have hM2 : Mk w.heap.size w w1 5 1 (.slice (some ⟨g, 0, none⟩) (pre.length + 1) cap) (pre.length + 1) ((revDig n.natAbs).map B8) := by
        rw [← Hp.out, revDig_last m (by simp at b1; omega)]
        simpa [B8] using hM1
      clear hM1 hM Hp
      have hlen : (revDig n.natAbs).length ≤ 25 := Nat.le_trans (revDig_len 20 n.natAbs (by omega)) (by omega)
      obtain ⟨ds, hds⟩ : ∃ ds, ds = revDig n.natAbs := ⟨_, rfl⟩
      rw [← hds] at hM2
      have Hds := Lib.hid hds; clear hds
      go_wp2
      have hL : ds.length = pre.length + 1 := by have := hM2.own.1; simp at this; exact this
      have HL := Lib.hid hL; clear hL
      have hfin : itoaS n = ⟨(swp ds ((pre.length + 1) / 2)).toArray⟩ := by rw [← HL.out, swp_half, Hds.out]; simp [itoaS, itoaL, show ¬ n < 0 by omega]
      have FIN := Lib.hid hfin; clear hfin
      go_loopw [5, 31] (fun _ i wr2 => ∃ k : Nat, i = .int .i64 k ∧ k ≤ (pre.length + 1) / 2 ∧ Mk w.heap.size w wr2 5 1 (.slice (some ⟨g, 0, none⟩) (pre.length + 1) cap) (pre.length + 1) ((swp ds k).map B8)) (fun _ i _ => (pre.length + 1) - (intOf i).toNat)
      case atStart => exact ⟨0, rfl, by omega, hM2⟩
      case round =>
        obtain ⟨k, rfl, hk, hM3⟩ := hrel
        by_cases hlt : k < (pre.length + 1) / 2
        · have hx : ds[k]? = some (ds[k]'(by have := HL.out; omega)) := List.getElem?_eq_getElem _
          have hy : ds[pre.length - k]? = some (ds[pre.length - k]'(by have := HL.out; omega)) := List.getElem?_eq_getElem _
          obtain ⟨m1, m2, m3⟩ := swp_mid ds k (by have := HL.out; omega) _ _ hx (by rw [show ds.length - 1 - k = pre.length - k by have := HL.out; omega]; exact hy)
          rw [show ds.length - 1 - k = pre.length - k by have := HL.out; omega] at m2 m3
          generalize ds[k]'(by have := HL.out; omega) = x at m1 m2 m3
          generalize ds[pre.length - k]'(by have := HL.out; omega) = y at m1 m2 m3
          clear hx hy
          have hc1 : wr.cell? ⟨g, k, none⟩ = some (.int .u8 (x.toNat : Int)) := by rw [hM3.own.cellAt k (by omega)]; simp [m1, B8]
          have hc2 : wr.cell? ⟨g, pre.length - k, none⟩ = some (.int .u8 (y.toNat : Int)) := by rw [hM3.own.cellAt _ (by omega)]; simp [m2, B8]
          have hf1 := hM3.own.frozenAt k
          have hf2 := hM3.own.frozenAt (pre.length - k)
          have M3 := Lib.hid m3; clear m1 m2 m3
          have hM4 : Mk w.heap.size w ((wr.drew.setCell ⟨g, k, none⟩ (B8 y)).setCell ⟨g, pre.length - k, none⟩ (B8 x)) 5 1 (.slice (some ⟨g, 0, none⟩) (pre.length + 1) cap) (pre.length + 1) ((swp ds (k + 1)).map B8) := by
            rw [M3.out, List.map_set, List.map_set]
            exact (hM3.drew.stored k _).stored _ _
          clear hM3 M3
          go_wp2
          go_region
          go_wp2
          go_roundw
          case rel => exact ⟨k + 1, by simp, by omega, hM4⟩
          case measure => simp [intOf]; omega
        · obtain rfl : k = (pre.length + 1) / 2 := by omega
          have hstr := run_string_own (P := Tryz.prog) Tryz.underlying47 Tryz.underlying5 Tryz.underlying9 (swp ds ((pre.length + 1) / 2)) hM3.own
          go_wp2
          go_ret
          exact ⟨by rw [FIN.out]; rfl, hM3.ext⟩
    · have b1 : ((m : Int) / 10 == 0) = false := by simp; omega
      have Hz := Lib.hid hz
      clear hz
      go_wp2_with (at_builtin; refine wpList_push Tryz.elem_bytes rfl (.tmp 12) (.tmp 17) rfl [.int .u8 (48 + (m : Int) % 10)] hM _ rfl rfl rfl rfl (by simp [Value.oneCell']) (by omega) (by omega) ?_; intro g cap w1 hM1 _ _)
      rw [dig_cell] at hM1
      go_roundw
      case rel => exact ⟨pre ++ [UInt8.ofNat (48 + m % 10)], m / 10, by simp, by omega, by simpa using hM1, by rw [← Hp.out, revDig_step m Hz.out]; simp⟩
      case measure => simp [intOf]; have := Hz.out; omega
set_option maxHeartbeats 8000000 in
theorem itoa_neg (n : Int) (w : World) (h0 : n < 0) (h1 : -9223372036854775808 ≤ n) :
    Calls Tryz.prog 102 #[.int .i64 n] w fun e w' => e = .returned (.string (itoaS n)) ∧ Ext w w' := by
  go_enter Tryz.func102, Tryz.ntmps102
  go_wp2
  go_loopw [3, 4] (fun b u wr => ItoaRel w.heap.size n.natAbs w b u wr) (fun _ u _ => (intOf u).toNat)
  case atStart => exact ⟨[], n.natAbs, negU n h0 h1, Nat.le_refl _, Mk.nil (Below.refl _ _) (Nat.le_refl _), rfl⟩
  case round =>
    obtain ⟨pre, m, rfl, hm, hM, hpre⟩ := hrel
    have hl : pre.length ≤ 25 := by
      have := congrArg List.length hpre
      have := revDig_len 20 n.natAbs (by omega)
      simp at *; omega
    have Hp := Lib.hid hpre; clear hpre
    have hm3 : (m : Int) ≤ 9223372036854775808 := by omega
    by_cases hz : m / 10 = 0
    · have b1 : ((m : Int) / 10 == 0) = true := by simp; omega
      clear hz
      go_wp2_with (first | (at_builtin; refine wpList_push Tryz.elem_bytes rfl (.tmp 25) (.tmp 26) rfl [.int .u8 45] hM1 _ rfl rfl rfl rfl (by simp [Value.oneCell']) (by omega) (by omega) ?_; intro g2 cap2 w2 hM9 _ _) | (at_builtin; refine wpList_push Tryz.elem_bytes rfl (.tmp 12) (.tmp 17) rfl [.int .u8 (48 + (m : Int) % 10)] hM _ rfl rfl rfl rfl (by simp [Value.oneCell']) (by omega) (by omega) ?_; intro g cap w1 hM1 _ _))
      rw [dig_cell] at hM9
      have hM2 : Mk w.heap.size w w2 5 1 (.slice (some ⟨g2, 0, none⟩) (pre.length + 1 + 1) cap2) (pre.length + 1 + 1) ((revDig n.natAbs ++ [45]).map B8) := by
        rw [← Hp.out, revDig_last m (by simp at b1; omega)]
        simpa [B8] using hM9
      clear hM9 hM1 hM Hp
      have hlen : (revDig n.natAbs).length ≤ 25 := Nat.le_trans (revDig_len 20 n.natAbs (by omega)) (by omega)
      obtain ⟨ds, hds⟩ : ∃ ds, ds = revDig n.natAbs ++ [45] := ⟨_, rfl⟩
      rw [← hds] at hM2
      have Hds := Lib.hid hds; clear hds
      go_wp2
      have hL : ds.length = pre.length + 1 + 1 := by have := hM2.own.1; simp at this; exact this
      have HL := Lib.hid hL; clear hL
      have hfin : itoaS n = ⟨(swp ds ((pre.length + 1 + 1) / 2)).toArray⟩ := by rw [← HL.out, swp_half, Hds.out]; simp [itoaS, itoaL, h0]
      have FIN := Lib.hid hfin; clear hfin
      go_loopw [5, 31] (fun _ i wr2 => ∃ k : Nat, i = .int .i64 k ∧ k ≤ (pre.length + 1 + 1) / 2 ∧ Mk w.heap.size w wr2 5 1 (.slice (some ⟨g2, 0, none⟩) (pre.length + 1 + 1) cap2) (pre.length + 1 + 1) ((swp ds k).map B8)) (fun _ i _ => (pre.length + 1 + 1) - (intOf i).toNat)
      case atStart => exact ⟨0, rfl, by omega, hM2⟩
      case round =>
        obtain ⟨k, rfl, hk, hM3⟩ := hrel
        by_cases hlt : k < (pre.length + 1 + 1) / 2
        · have hx : ds[k]? = some (ds[k]'(by have := HL.out; omega)) := List.getElem?_eq_getElem _
          have hy : ds[pre.length + 1 - k]? = some (ds[pre.length + 1 - k]'(by have := HL.out; omega)) := List.getElem?_eq_getElem _
          obtain ⟨m1, m2, m3⟩ := swp_mid ds k (by have := HL.out; omega) _ _ hx (by rw [show ds.length - 1 - k = pre.length + 1 - k by have := HL.out; omega]; exact hy)
          rw [show ds.length - 1 - k = pre.length + 1 - k by have := HL.out; omega] at m2 m3
          generalize ds[k]'(by have := HL.out; omega) = x at m1 m2 m3
          generalize ds[pre.length + 1 - k]'(by have := HL.out; omega) = y at m1 m2 m3
          clear hx hy
          have hc1 : wr.cell? ⟨g2, k, none⟩ = some (.int .u8 (x.toNat : Int)) := by rw [hM3.own.cellAt k (by omega)]; simp [m1, B8]
          have hc2 : wr.cell? ⟨g2, pre.length + 1 - k, none⟩ = some (.int .u8 (y.toNat : Int)) := by rw [hM3.own.cellAt _ (by omega)]; simp [m2, B8]
          have hf1 := hM3.own.frozenAt k
          have hf2 := hM3.own.frozenAt (pre.length + 1 - k)
          have M3 := Lib.hid m3; clear m1 m2 m3
          have hM4 : Mk w.heap.size w ((wr.drew.setCell ⟨g2, k, none⟩ (B8 y)).setCell ⟨g2, pre.length + 1 - k, none⟩ (B8 x)) 5 1 (.slice (some ⟨g2, 0, none⟩) (pre.length + 1 + 1) cap2) (pre.length + 1 + 1) ((swp ds (k + 1)).map B8) := by
            rw [M3.out, List.map_set, List.map_set]
            exact (hM3.drew.stored k _).stored _ _
          clear hM3 M3
          go_wp2
          go_region
          go_wp2
          go_roundw
          case rel => exact ⟨k + 1, by simp, by omega, hM4⟩
          case measure => simp [intOf]; omega
        · obtain rfl : k = (pre.length + 1 + 1) / 2 := by omega
          have hstr := run_string_own (P := Tryz.prog) Tryz.underlying47 Tryz.underlying5 Tryz.underlying9 (swp ds ((pre.length + 1 + 1) / 2)) hM3.own
          go_wp2
          go_ret
          exact ⟨by rw [FIN.out]; rfl, hM3.ext⟩
    · have b1 : ((m : Int) / 10 == 0) = false := by simp; omega
      have Hz := Lib.hid hz
      clear hz
      go_wp2_with (at_builtin; refine wpList_push Tryz.elem_bytes rfl (.tmp 12) (.tmp 17) rfl [.int .u8 (48 + (m : Int) % 10)] hM _ rfl rfl rfl rfl (by simp [Value.oneCell']) (by omega) (by omega) ?_; intro g cap w1 hM1 _ _)
      rw [dig_cell] at hM1
      go_roundw
      case rel => exact ⟨pre ++ [UInt8.ofNat (48 + m % 10)], m / 10, by simp, by omega, by simpa using hM1, by rw [← Hp.out, revDig_step m Hz.out]; simp⟩
      case measure => simp [intOf]; have := Hz.out; omega

theorem itoa_any (n : Int) (w : World) (h0 : -9223372036854775808 ≤ n) (h1 : n ≤ 9223372036854775807) :
    Calls Tryz.prog 102 #[.int .i64 n] w fun e w' => e = .returned (.string (itoaS n)) ∧ Ext w w' := by
  by_cases h : n < 0
  · exact itoa_neg n w h h0
  · exact itoa_pos n w (by omega) h1
end Go.Proofs.YtlgidjanmaijaaaGreatDoor

/- value.Print, value.Right: what each call answers; the world has at most new blocks. -/
namespace Go.Proofs.YtlgidjanmaijaaaGreatDoor
set_option linter.all false
set_option linter.unusedSimpArgs false
set_option linter.unusedVariables false
open Go.RowKit
/-- what value.Print answers -/
def printL (k n : Int) (s : ByteArray) : List UInt8 := if k = 1 then itoaL n else if k = 2 then 39 :: s.data.toList ++ [39] else [110, 117, 108, 108]
def printS (k n : Int) (s : ByteArray) : ByteArray := ⟨(printL k n s).toArray⟩

set_option maxHeartbeats 8000000 in
theorem print_any (k n : Int) (s : ByteArray) (w : World) (h0 : -9223372036854775808 ≤ n) (h1 : n ≤ 9223372036854775807) (hs : s.size ≤ 140737488355328) :
    Calls Tryz.prog 68 #[.agg #[.int .i64 k, .int .i64 n, .string s]] w fun e w' => e = .returned (.string (printS k n s)) ∧ Ext w w' := by
  by_cases hk : k = 1
  · subst hk
    go_enter Tryz.func68, Tryz.ntmps68
    go_wp2_with (go_at_call 102; refine (itoa_any _ _ h0 h1).mono ?_; rintro e w1 ⟨rfl, hw1⟩)
    go_ret
    refine ⟨rfl, ?_⟩
    (repeat (first | with_reducible exact Ext.refl _ | with_reducible assumption | with_reducible refine Ext.drew ?_ | with_reducible refine Ext.alloc ?_ _ | with_reducible refine Ext.drewN ?_ _ | refine Ext.trans ?_ (by with_reducible assumption)))
  · have b1 : (k == 1) = false := by simp [hk]
    by_cases hk2 : k = 2
    · subst hk2
      clear hk b1
      go_enter Tryz.func68, Tryz.ntmps68
      go_wp2_with fail
      go_ret
      refine ⟨?_, ?_⟩
      · refine congrArg (fun z => Ending.returned (Value.string z)) (?_ : _ = printS 2 n s)
        apply ByteArray.ext
        apply Array.toList_inj.1
        simp [printS, printL, ByteArray.data_append]
      · (repeat (first | with_reducible exact Ext.refl _ | with_reducible assumption | with_reducible refine Ext.drew ?_ | with_reducible refine Ext.alloc ?_ _ | with_reducible refine Ext.drewN ?_ _ | refine Ext.trans ?_ (by with_reducible assumption)))
    · have b2 : (k == 2) = false := by simp [hk2]
      have fin : printS k n s = ⟨#[110, 117, 108, 108]⟩ := by simp [printS, printL, hk, hk2]
      rw [fin]
      clear hk hk2 fin
      go_enter Tryz.func68, Tryz.ntmps68
      go_wp2_with fail
      go_ret
      refine ⟨rfl, ?_⟩
      (repeat (first | with_reducible exact Ext.refl _ | with_reducible assumption | with_reducible refine Ext.drew ?_ | with_reducible refine Ext.alloc ?_ _ | with_reducible refine Ext.drewN ?_ _ | refine Ext.trans ?_ (by with_reducible assumption)))
end Go.Proofs.YtlgidjanmaijaaaGreatDoor

/- A region whose operations only compute, read what stays as it was, or call what leaves all as it was: walked once, in the order of the text, whatever order is drawn. For any program. -/
namespace Go.Proofs.YtlgidjanmaijaaaGreatDoor
set_option linter.all false
open Go.RowKit

section
variable {P : Program} {ops : Array Oper} {F : World → Prop}

/-- in every world that meets F the operation yields v, or calls a function that yields v and leaves what was there as it was -/
def StepOK (P : Program) (F : World → Prop) (o : Oper) (a : Act) (v : Value) : Prop :=
  (∀ w, F w → (execOp a.eval o).run P w = .ok (.value v) w) ∨
  (∃ f args, (∀ w, F w → (execOp a.eval o).run P w = .ok (.enter f args) w) ∧ ∀ w, F w → Calls P f args w fun e w' => e = .returned v ∧ Ext w w')

/-- the walk in the order of the text -/
def Fixed (P : Program) (ops : Array Oper) (F : World → Prop) (K : Act → Prop) : List Oper → Act → Prop
  | [], a => K a
  | o :: rest, a => (Region.wanted o (yielded ops a.tmps) = true ∧ ∃ v, StepOK P F o a v ∧ Fixed P ops F K rest (a.put o.dst v)) ∨
      (Region.wanted o (yielded ops a.tmps) = false ∧ Fixed P ops F K rest (a.put o.dst undef))

theorem Fixed.done {K : Act → Prop} {a : Act} (h : K a) : Fixed P ops F K [] a := h
theorem Fixed.skip {K : Act → Prop} {o : Oper} {rest : List Oper} {a : Act} (hw : Region.wanted o (yielded ops a.tmps) = false) (h : Fixed P ops F K rest (a.put o.dst undef)) : Fixed P ops F K (o :: rest) a := .inr ⟨hw, h⟩
theorem Fixed.val {K : Act → Prop} {o : Oper} {rest : List Oper} {a : Act} {v : Value} (hw : Region.wanted o (yielded ops a.tmps) = true) (hr : ∀ w, F w → (execOp a.eval o).run P w = .ok (.value v) w)
    (h : Fixed P ops F K rest (a.put o.dst v)) : Fixed P ops F K (o :: rest) a := .inl ⟨hw, v, .inl hr, h⟩
theorem Fixed.call {K : Act → Prop} {o : Oper} {rest : List Oper} {a : Act} {v : Value} {f : FuncId} {args : Array Value} (hw : Region.wanted o (yielded ops a.tmps) = true) (hr : ∀ w, F w → (execOp a.eval o).run P w = .ok (.enter f args) w)
    (hc : ∀ w, F w → Calls P f args w fun e w' => e = .returned v ∧ Ext w w') (h : Fixed P ops F K rest (a.put o.dst v)) : Fixed P ops F K (o :: rest) a := .inl ⟨hw, v, .inr ⟨f, args, hr, hc⟩, h⟩

/-- the frame when the operations of L have come up, with the values vs -/
def frameOf (ops : Array Oper) (vs : Nat → Value) (L : Nat → Bool) (a0 : Act) : Nat → Act
  | 0 => a0
  | n + 1 => if L n then (frameOf ops vs L a0 n).put ((ops[n]?).bind (·.dst)) (vs n) else frameOf ops vs L a0 n

theorem frame_congr {vs : Nat → Value} {L M : Nat → Bool} {a0 : Act} : ∀ n, (∀ i, i < n → L i = M i) → frameOf ops vs L a0 n = frameOf ops vs M a0 n
  | 0, _ => rfl
  | n + 1, h => by
    unfold frameOf
    rw [frame_congr n (fun i hi => h i (by omega)), h n (by omega)]
theorem frame_vs {vs us : Nat → Value} {L : Nat → Bool} {a0 : Act} : ∀ n, (∀ i, i < n → vs i = us i) → frameOf ops vs L a0 n = frameOf ops us L a0 n
  | 0, _ => rfl
  | n + 1, h => by
    unfold frameOf
    rw [frame_vs n (fun i hi => h i (by omega)), h n (by omega)]

/-- no two operations write one slot -/
def dstApart (ops : Array Oper) : Bool := (List.range ops.size).all fun i => (List.range ops.size).all fun j => i == j || match (ops[i]?).bind (·.dst) with | none => true | some d => (ops[j]?).bind (·.dst) != some d
/-- i waits for j -/
def waits (ops : Array Oper) (i j : Nat) : Bool := ((ops[i]?).map fun o => o.after.any fun e => Region.binds .any e && e.on == j).getD false
def isSelect (o : Oper) : Bool := match o.op with | .select .. => true | _ => false
/-- whoever looks at a slot waits for its writer, or its writer waits for him; nobody waits for whoever comes later -/
def looksOk (ops : Array Oper) : Bool := (List.range ops.size).all fun i => match ops[i]? with
  | none => true
  | some o => !isSelect o && (o.after.all fun e => !Region.binds .any e || decide (e.on < i)) && (o.looksAt ops).all fun t => (List.range ops.size).all fun j => ((ops[j]?).bind (·.dst) != some t) || (decide (j < i) && waits ops i j) || (decide (i < j) && waits ops j i)
def fixedOk (ops : Array Oper) : Bool := dstApart ops && looksOk ops

theorem dst_spec (h : dstApart ops = true) {i j : Nat} (hij : i ≠ j) {d : Tmp} (hi : (ops[i]?).bind (·.dst) = some d) : (ops[j]?).bind (·.dst) ≠ some d := by
  have li : i < ops.size := by
    rcases Nat.lt_or_ge i ops.size with h | h
    · exact h
    · simp [Array.getElem?_eq_none h] at hi
  intro hj
  have lj : j < ops.size := by
    rcases Nat.lt_or_ge j ops.size with h | h
    · exact h
    · simp [Array.getElem?_eq_none h] at hj
  unfold dstApart at h
  rw [List.all_eq_true] at h
  have h1 := h i (by simpa using li)
  rw [List.all_eq_true] at h1
  have h2 := h1 j (by simpa using lj)
  rw [hi, hj] at h2
  simp at h2
  exact hij h2

theorem put_put (hd : dstApart ops = true) (a : Act) {i j : Nat} (hij : i ≠ j) (v u : Value) :
    (a.put ((ops[i]?).bind (·.dst)) v).put ((ops[j]?).bind (·.dst)) u = (a.put ((ops[j]?).bind (·.dst)) u).put ((ops[i]?).bind (·.dst)) v :=
  Act.put_comm a v u fun d hi => dst_spec hd hij hi

/-- one more has come up -/
theorem frame_more (hd : dstApart ops = true) {vs : Nat → Value} {L : Nat → Bool} {a0 : Act} {i : Nat} (hi : L i = false) : ∀ n, i < n →
    frameOf ops vs (fun j => j == i || L j) a0 n = (frameOf ops vs L a0 n).put ((ops[i]?).bind (·.dst)) (vs i)
  | 0, h => absurd h (by omega)
  | n + 1, h => by
    unfold frameOf
    by_cases e : n = i
    · subst e
      simp only [beq_self_eq_true, Bool.true_or, if_true, hi, Bool.false_eq_true, if_false]
      rw [frame_congr (L := fun j => j == n || L j) (M := L) n (fun j hj => by
        have : (j == n) = false := by simp; omega
        simp [this])]
    · have hb : (n == i) = false := by simpa using e
      simp only [hb, Bool.false_or]
      rw [frame_more hd hi n (by omega)]
      split
      · exact put_put hd _ (fun h => e h.symm) _ _
      · rfl

theorem frame_size {vs : Nat → Value} {L : Nat → Bool} {a0 : Act} : ∀ n, (frameOf ops vs L a0 n).tmps.size = a0.tmps.size ∧ (frameOf ops vs L a0 n).defers = a0.defers
  | 0 => ⟨rfl, rfl⟩
  | n + 1 => by
    unfold frameOf
    have ih := frame_size (vs := vs) (L := L) (a0 := a0) n
    split
    · cases h : (ops[n]?).bind (·.dst) <;> simp [Act.put, ih]
    · exact ih
/-- a slot that nobody of L writes -/
theorem frame_other {vs : Nat → Value} {L : Nat → Bool} {a0 : Act} {t : Tmp} : ∀ n, (∀ j, j < n → L j = true → (ops[j]?).bind (·.dst) ≠ some t) → (frameOf ops vs L a0 n).tmps[t]? = a0.tmps[t]?
  | 0, _ => rfl
  | n + 1, h => by
    unfold frameOf
    have ih := frame_other (vs := vs) (L := L) (a0 := a0) (t := t) n (fun j hj => h j (by omega))
    split
    · rename_i hl
      have hn := h n (by omega) hl
      cases hd : (ops[n]?).bind (·.dst) with
      | none => simpa [Act.put] using ih
      | some d =>
        have : d ≠ t := fun e => hn (by rw [hd, e])
        simp [Act.put, Array.getElem?_setIfInBounds_ne this, ih]
    · exact ih
/-- a slot that j of L writes -/
theorem frame_at (hd : dstApart ops = true) {vs : Nat → Value} {L : Nat → Bool} {a0 : Act} {t : Tmp} {j : Nat} (hj : (ops[j]?).bind (·.dst) = some t) (hl : L j = true) : ∀ n, j < n →
    (frameOf ops vs L a0 n).tmps[t]? = if t < a0.tmps.size then some (vs j) else none
  | 0, h => absurd h (by omega)
  | n + 1, h => by
    unfold frameOf
    by_cases e : n = j
    · subst e
      rw [if_pos hl, hj]
      have hs := (frame_size (ops := ops) (vs := vs) (L := L) (a0 := a0) n).1
      by_cases hlt : t < a0.tmps.size
      · simp [Act.put, hs, hlt]
      · simp [Act.put, hs, hlt]
    · have ih := frame_at hd (vs := vs) (L := L) (a0 := a0) hj hl n (by omega)
      split
      · have hn := dst_spec hd (fun h => e h.symm) hj (j := n)
        cases hdn : (ops[n]?).bind (·.dst) with
        | none => simpa [Act.put] using ih
        | some d =>
          have : d ≠ t := fun e => hn (by rw [hdn, e])
          simp [Act.put, Array.getElem?_setIfInBounds_ne this, ih]
      · exact ih

/-- two frames agree at all slots that operation i looks at, if the ones of whom it waits are in both, and no one who waits for it in either -/
theorem frames_agree (hd : dstApart ops = true) (hl : looksOk ops = true) {vs : Nat → Value} {L M : Nat → Bool} {a0 : Act} {i : Nat} {o : Oper} (hi : ops[i]? = some o)
    (h1 : ∀ j, j < i → waits ops i j = true → L j = true ∧ M j = true) (h2 : ∀ j, i < j → waits ops j i = true → L j = false ∧ M j = false) (h3 : L i = false ∧ M i = false)
    {t : Tmp} (ht : t ∈ o.looksAt ops) : (frameOf ops vs L a0 ops.size).tmps[t]? = (frameOf ops vs M a0 ops.size).tmps[t]? := by
  have li : i < ops.size := (Array.getElem?_eq_some_iff.1 hi).1
  unfold looksOk at hl
  rw [List.all_eq_true] at hl
  have hli := hl i (by simpa using li)
  rw [hi] at hli
  simp only [Bool.and_eq_true] at hli
  have hlt := hli.2
  rw [List.all_eq_true] at hlt
  have hT := hlt t ht
  rw [List.all_eq_true] at hT
  by_cases hw : ∃ j, j < ops.size ∧ (ops[j]?).bind (·.dst) = some t
  · obtain ⟨j, lj, hj⟩ := hw
    have hJ := hT j (by simpa using lj)
    rw [hj] at hJ
    simp only [bne_self_eq_false, Bool.false_or, Bool.or_eq_true, Bool.and_eq_true, decide_eq_true_eq] at hJ
    rcases hJ with ⟨hji, hwt⟩ | ⟨hij, hwt⟩
    · obtain ⟨a, b⟩ := h1 j hji hwt
      rw [frame_at hd hj a _ lj, frame_at hd hj b _ lj]
    · obtain ⟨a, b⟩ := h2 j hij hwt
      rw [frame_other _ (fun k _ hk e => by
          by_cases hkj : k = j
          · subst hkj; rw [a] at hk; cases hk
          · exact dst_spec hd (fun e => hkj e.symm) hj e),
        frame_other _ (fun k _ hk e => by
          by_cases hkj : k = j
          · subst hkj; rw [b] at hk; cases hk
          · exact dst_spec hd (fun e => hkj e.symm) hj e)]
  · have hno : ∀ k, k < ops.size → (ops[k]?).bind (·.dst) ≠ some t := fun k hk e => hw ⟨k, hk, e⟩
    rw [frame_other _ (fun k hk _ => hno k hk), frame_other _ (fun k hk _ => hno k hk)]

theorem eval_agree {a b : Act} {o : Oper} (h : ∀ t ∈ o.looksAt ops, a.tmps[t]? = b.tmps[t]?) : ∀ x ∈ o.op.operands, a.eval x = b.eval x := by
  intro x hx
  cases x with
  | tmp t =>
    have := h t (List.mem_append_left _ (List.mem_filterMap.2 ⟨.tmp t, by simpa using hx, rfl⟩))
    simp only [Act.eval, Array.getD_eq_getD_getElem?, this]
  | const v => rfl
  | global g => rfl
  | func f => rfl
theorem wanted_agree {a b : Act} {o : Oper} (h : ∀ t ∈ o.looksAt ops, a.tmps[t]? = b.tmps[t]?) : Region.wanted o (yielded ops a.tmps) = Region.wanted o (yielded ops b.tmps) := by
  unfold Region.wanted
  cases hg : o.guard with
  | none => rfl
  | some gw =>
    obtain ⟨g, want⟩ := gw
    have : yielded ops a.tmps g = yielded ops b.tmps g := by
      unfold yielded
      cases ht : (ops[g]?).bind (·.dst) with
      | none => rfl
      | some t =>
        have := h t (by simp [Oper.looksAt, hg, ht])
        simp only [Option.bind_some, this]
    simp only [this]

/-- the frame of the text's order ahead of operation n -/
def frameTo (ops : Array Oper) (vs : Nat → Value) (a0 : Act) (n : Nat) : Act := frameOf ops vs (fun _ => true) a0 n
theorem frameTo_eq {vs : Nat → Value} {a0 : Act} {i : Nat} : ∀ n, i ≤ n → frameTo ops vs a0 i = frameOf ops vs (fun j => decide (j < i)) a0 n
  | 0, h => by obtain rfl : i = 0 := by omega
               rfl
  | n + 1, h => by
    by_cases e : i = n + 1
    · subst e
      exact frame_congr _ fun j hj => by simp [hj]
    · rw [frameTo_eq n (by omega)]
      conv => rhs; unfold frameOf
      rw [if_neg (by simp; omega)]

/-- out of the walk: the values, and that each step stands -/
theorem Fixed.values {K : Act → Prop} {a0 : Act} : ∀ (rest : List Oper) (n : Nat) (us : Nat → Value), (∀ j, rest[j]? = ops[n + j]?) → n + rest.length = ops.size → Fixed P ops F K rest (frameTo ops us a0 n) →
    ∃ vs : Nat → Value, (∀ j, j < n → vs j = us j) ∧ K (frameTo ops vs a0 ops.size) ∧ ∀ i o, n ≤ i → ops[i]? = some o →
      (Region.wanted o (yielded ops (frameTo ops vs a0 i).tmps) = true ∧ StepOK P F o (frameTo ops vs a0 i) (vs i)) ∨ (Region.wanted o (yielded ops (frameTo ops vs a0 i).tmps) = false ∧ vs i = undef)
  | [], n, us, _, hn, h => ⟨us, fun _ _ => rfl, by rw [← hn]; exact h, fun i o hi ho => by
      have := (Array.getElem?_eq_some_iff.1 ho).1
      simp at hn; omega⟩
  | o :: rest, n, us, hr, hn, h => by
    have ho : ops[n]? = some o := by simpa using (hr 0).symm
    have hr' : ∀ j, rest[j]? = ops[n + 1 + j]? := fun j => by
      have := hr (j + 1)
      simpa [Nat.add_assoc, Nat.add_comm 1 j] using this
    have hput : ∀ v, frameTo ops (fun j => if j = n then v else us j) a0 (n + 1) = (frameTo ops us a0 n).put o.dst v := fun v => by
      unfold frameTo
      conv => lhs; unfold frameOf
      rw [if_pos rfl, if_pos rfl, ho, frame_vs (us := us) n (fun i hi => if_neg (by omega))]
      rfl
    have hkeep : ∀ v vs, (∀ j, j < n + 1 → vs j = (if j = n then v else us j)) → frameTo ops vs a0 n = frameTo ops us a0 n := fun v vs hvs => by
      exact frame_vs _ fun j hj => by rw [hvs j (by omega), if_neg (by omega)]
    rcases h with ⟨hw, v, hs, h⟩ | ⟨hw, h⟩
    · obtain ⟨vs, h1, h2, h3⟩ := Fixed.values rest (n + 1) (fun j => if j = n then v else us j) hr' (by simp at hn; omega) (by rw [hput]; exact h)
      refine ⟨vs, fun j hj => by rw [h1 j (by omega), if_neg (by omega)], h2, fun i o' hi ho' => ?_⟩
      by_cases e : i = n
      · subst e
        obtain rfl : o = o' := Option.some.inj (ho.symm.trans ho')
        rw [hkeep v vs h1, h1 i (by omega), if_pos rfl]
        exact .inl ⟨hw, hs⟩
      · exact h3 i o' (by omega) ho'
    · obtain ⟨vs, h1, h2, h3⟩ := Fixed.values rest (n + 1) (fun j => if j = n then undef else us j) hr' (by simp at hn; omega) (by rw [hput]; exact h)
      refine ⟨vs, fun j hj => by rw [h1 j (by omega), if_neg (by omega)], h2, fun i o' hi ho' => ?_⟩
      by_cases e : i = n
      · subst e
        obtain rfl : o = o' := Option.some.inj (ho.symm.trans ho')
        rw [hkeep undef vs h1, h1 i (by omega), if_pos rfl]
        exact .inr ⟨hw, rfl⟩
      · exact h3 i o' (by omega) ho'

/-- one step, in whatever frame agrees -/
theorem wpOp_fixed {Q : Exit → Act → World → Prop} {i : Nat} {o : Oper} (hi : ops[i]? = some o) (hsel : isSelect o = false) {a b : Act} {w : World} {v : Value} {K : Act → World → Prop}
    (hab : ∀ t ∈ o.looksAt ops, a.tmps[t]? = b.tmps[t]?) (hF : F w)
    (hs : (Region.wanted o (yielded ops b.tmps) = true ∧ StepOK P F o b v) ∨ (Region.wanted o (yielded ops b.tmps) = false ∧ v = undef))
    (h : ∀ w', Ext w w' → K (a.put o.dst v) w') : wpOp P ops Q i K a w := by
  have hns : ∀ cs c, o.op ≠ .select cs c := fun cs c e => by simp [isSelect, e] at hsel
  unfold wpOp
  simp only [hi]
  rw [wanted_agree hab]
  have he : execOp a.eval o = execOp b.eval o := execOp_congr o hns (eval_agree hab)
  rcases hs with ⟨hw, hr | ⟨f, args, hr, hc⟩⟩ | ⟨hw, rfl⟩
  · rw [if_pos hw]
    refine .inl ?_
    unfold Oper.wp
    rw [he, hr w hF]
    exact h w (Ext.refl w)
  · rw [if_pos hw]
    refine .inl ?_
    unfold Oper.wp
    rw [he, hr w hF]
    exact (hc w hF).mono fun e w' ⟨h1, h2⟩ => by subst h1; exact h w' h2
  · rw [hw]
    exact h w (Ext.refl w)

theorem waits_spec {i j : Nat} {o : Oper} (hi : ops[i]? = some o) : waits ops i j = true ↔ ∃ e ∈ o.after, Region.binds .any e = true ∧ e.on = j := by
  simp only [waits, hi, Option.map_some, Option.getD_some]
  rw [Array.any_eq_true]
  constructor
  · rintro ⟨k, hk, h⟩
    simp only [Bool.and_eq_true, beq_iff_eq] at h
    exact ⟨o.after[k], Array.getElem_mem hk, h.1, h.2⟩
  · rintro ⟨e, he, h1, h2⟩
    obtain ⟨k, hk, rfl⟩ := Array.getElem_of_mem he
    exact ⟨k, hk, by simp [h1, h2]⟩
theorem filter_less {p q : Nat → Bool} {i : Nat} (hp : p i = true) (hq : q i = false) : ∀ (l : List Nat), (∀ j ∈ l, q j = true → p j = true) → (l.filter q).length ≤ (l.filter p).length ∧ (i ∈ l → (l.filter q).length < (l.filter p).length)
  | [], _ => by simp
  | x :: l, h => by
    obtain ⟨h1, h2⟩ := filter_less hp hq l fun j hj => h j (by simp [hj])
    have hx := h x (by simp)
    by_cases e : i = x
    · subst e
      simp only [List.filter_cons, hp, hq, if_true, Bool.false_eq_true, if_false, List.length_cons]
      omega
    · cases hqx : q x with
      | true =>
        simp only [List.filter_cons, hqx, hx hqx, if_true, List.length_cons]
        refine ⟨by omega, fun hm => ?_⟩
        have := h2 (by simpa [e] using hm)
        omega
      | false =>
        cases hpx : p x with
        | true =>
          simp only [List.filter_cons, hqx, hpx, if_true, Bool.false_eq_true, if_false, List.length_cons]
          exact ⟨by omega, fun _ => by omega⟩
        | false =>
          simp only [List.filter_cons, hqx, hpx, Bool.false_eq_true, if_false]
          exact ⟨h1, fun hm => h2 (by simpa [e] using hm)⟩
theorem repl_false (n j : Nat) : (Array.replicate n false).getD j false = false := by
  simp only [Array.getD_eq_getD_getElem?, Array.getElem?_replicate]
  split <;> rfl

theorem wpAny_fixed {Q : Exit → Act → World → Prop} {a0 : Act} {w0 : World} {vs : Nat → Value} (hd : dstApart ops = true) (hl : looksOk ops = true) (hcl : ∀ w w', F w → Ext w w' → F w')
    (hst : ∀ i o, ops[i]? = some o → (Region.wanted o (yielded ops (frameTo ops vs a0 i).tmps) = true ∧ StepOK P F o (frameTo ops vs a0 i) (vs i)) ∨ (Region.wanted o (yielded ops (frameTo ops vs a0 i).tmps) = false ∧ vs i = undef))
    (hQ : ∀ w, Ext w0 w → F w → Q .normal (frameTo ops vs a0 ops.size) w) :
    ∀ (fuel : Nat) (listed : Array Bool) (w : World), listed.size = ops.size → ((List.range ops.size).filter fun j => !listed.getD j true).length ≤ fuel →
      (∀ i j, listed.getD i false = true → waits ops i j = true → listed.getD j false = true) → F w → Ext w0 w →
      wpAny P .any ops Q fuel listed (frameOf ops vs (fun j => listed.getD j false) a0 ops.size) w := by
  -- whoever is not listed: the first of them may come up
  have first : ∀ listed : Array Bool, listed.size = ops.size → Region.ready .any ops listed = [] → ∀ i, i < ops.size → listed.getD i false = true := by
    intro listed hs hr i
    induction i using Nat.strongRecOn with
    | _ i ih =>
      intro hi
      cases hb : listed.getD i false with
      | true => rfl
      | false =>
        have ho : ops[i]? = some ops[i] := Array.getElem?_eq_getElem hi
        have hmem : i ∈ Region.ready .any ops listed := mem_ready.2 ⟨by
          have hli : i < listed.size := by omega
          simpa [Array.getD_eq_getD_getElem?, hli] using hb, _, ho, fun e he hbd => by
            have hl' := hl
            unfold looksOk at hl'
            rw [List.all_eq_true] at hl'
            have h1 := hl' i (by simpa using hi)
            rw [ho] at h1
            simp only [Bool.and_eq_true] at h1
            have h2 := h1.1.2
            have h3 := (Array.all_eq_true_iff_forall_mem.1 h2) e he
            rw [hbd] at h3
            simp at h3
            exact ih e.on h3 (by omega)⟩
        rw [hr] at hmem
        cases hmem
  have fin : ∀ (listed : Array Bool) (w : World), listed.size = ops.size → F w → Ext w0 w → Region.ready .any ops listed = [] → Q .normal (frameOf ops vs (fun j => listed.getD j false) a0 ops.size) w := by
    intro listed w hs hF hx hr
    have : frameOf ops vs (fun j => listed.getD j false) a0 ops.size = frameTo ops vs a0 ops.size := frame_congr _ fun j hj => first listed hs hr j hj
    rw [this]
    exact hQ w hx hF
  intro fuel
  induction fuel with
  | zero =>
    intro listed w hs hn hcld hF hx
    have hr : Region.ready .any ops listed = [] := by
      rw [List.eq_nil_iff_forall_not_mem]
      intro i hi
      obtain ⟨h0, o, ho, _⟩ := mem_ready.1 hi
      have : i ∈ (List.range ops.size).filter fun j => !listed.getD j true := List.mem_filter.2 ⟨by simpa using (Array.getElem?_eq_some_iff.1 ho).1, by simp [h0]⟩
      rw [List.eq_nil_of_length_eq_zero (Nat.le_zero.1 hn)] at this
      cases this
    exact ⟨hr, fin listed w hs hF hx hr⟩
  | succ fuel ih =>
    intro listed w hs hn hcld hF hx
    refine ⟨fin listed w hs hF hx, fun i hi => ?_⟩
    obtain ⟨h0, o, ho, hall⟩ := mem_ready.1 hi
    have hi' : i < ops.size := (Array.getElem?_eq_some_iff.1 ho).1
    have hLi : listed.getD i false = false := by
      have hli : i < listed.size := by omega
      simpa [Array.getD_eq_getD_getElem?, hli] using h0
    have hsel : isSelect o = false := by
      have hl' := hl
      unfold looksOk at hl'
      rw [List.all_eq_true] at hl'
      have h1 := hl' i (by simpa using hi')
      rw [ho] at h1
      simp only [Bool.and_eq_true, Bool.not_eq_true'] at h1
      exact h1.1.1
    refine wpOp_fixed (b := frameTo ops vs a0 i) ho hsel ?_ hF (hst i o ho) ?_
    · intro t ht
      rw [frameTo_eq ops.size (by omega)]
      refine frames_agree hd hl ho ?_ ?_ ⟨hLi, by simp⟩ ht
      · intro j hj hw
        obtain ⟨e, he, hb, rfl⟩ := (waits_spec ho).1 hw
        exact ⟨hall e he hb, by simp [hj]⟩
      · intro j hj hw
        refine ⟨?_, by simp; omega⟩
        cases hb : listed.getD j false with
        | false => rfl
        | true => rw [hcld j i hb hw] at hLi; cases hLi
    · intro w' hx'
      have hmore := frame_more hd (vs := vs) (L := fun j => listed.getD j false) (a0 := a0) hLi ops.size hi'
      have hput : (ops[i]?).bind (·.dst) = o.dst := by rw [ho]; rfl
      rw [hput] at hmore
      rw [← hmore]
      have hset : ∀ j, (listed.setIfInBounds i true).getD j false = (j == i || listed.getD j false) := fun j => by
        by_cases e : j = i
        · subst e
          have : j < listed.size := by omega
          simp [Array.getD_eq_getD_getElem?, this]
        · rw [getD_set_ne false (fun h => e h.symm)]
          have : (j == i) = false := by simpa using e
          rw [this, Bool.false_or]
      rw [show frameOf ops vs (fun j => j == i || listed.getD j false) a0 ops.size = frameOf ops vs (fun j => (listed.setIfInBounds i true).getD j false) a0 ops.size from frame_congr _ fun j _ => (hset j).symm]
      refine ih _ _ (by simpa using hs) ?_ ?_ (hcl w w' hF hx') (hx.trans hx')
      · have hlen : ((List.range ops.size).filter fun j => !(listed.setIfInBounds i true).getD j true).length < ((List.range ops.size).filter fun j => !listed.getD j true).length := by
          have hsz : i < listed.size := by omega
          refine (filter_less (p := fun j => !listed.getD j true) (q := fun j => !(listed.setIfInBounds i true).getD j true) (i := i) (by simp only [h0]; rfl) (by simp [Array.getD_eq_getD_getElem?, hsz]) _ ?_).2 (by simpa using hi')
          intro j hj hj'
          by_cases e : i = j
          · subst e
            simp [Array.getD_eq_getD_getElem?, hsz] at hj'
          · rw [getD_set_ne true e] at hj'; exact hj'
        omega
      · intro k j hk hw
        rw [hset] at hk ⊢
        by_cases e : k = i
        · subst e
          obtain ⟨e, he, hb, rfl⟩ := (waits_spec ho).1 hw
          rw [hall e he hb]; simp
        · have : (k == i) = false := by simpa using e
          rw [this, Bool.false_or] at hk
          rw [hcld k j hk hw]; simp

/-- **A region walked once**, whether its order is drawn or not. -/
theorem wp_region_fixed {Q : Exit → Act → World → Prop} {id : Nat} {l : List Oper} {draw : Bool} {a : Act} {w : World} (hm : P.follows .mixedOrders = true) (hok : fixedOk l.toArray = true)
    (hcl : ∀ w w', F w → Ext w w' → F w') (hF : F w) (h : Fixed P l.toArray F (fun a' => ∀ w', Ext w w' → F w' → Q .normal a' w') l a) : (Code.region id l.toArray draw).wp P Q a w := by
  have hd : dstApart l.toArray = true := by simp only [fixedOk, Bool.and_eq_true] at hok; exact hok.1
  have hl : looksOk l.toArray = true := by simp only [fixedOk, Bool.and_eq_true] at hok; exact hok.2
  obtain ⟨vs, _, hK, hst⟩ := Fixed.values (a0 := a) l 0 (fun _ => undef) (by simp) (by simp) h
  cases draw with
  | true =>
    refine wp_region_any hm ?_
    have := wpAny_fixed (Q := Q) hd hl hcl (fun i o ho => hst i o (Nat.zero_le _) ho) hK l.toArray.size (Array.replicate l.toArray.size false) w.drew (by simp) (by
      have := List.length_filter_le (fun j => !(Array.replicate l.toArray.size false).getD j true) (List.range l.toArray.size)
      simpa using this) (fun i j hi => by rw [repl_false] at hi; cases hi) (hcl w w.drew hF ((Ext.refl w).drew)) ((Ext.refl w).drew)
    rw [frame_congr (M := fun _ => false) l.toArray.size (fun j hj => repl_false _ _)] at this
    rw [show frameOf l.toArray vs (fun _ => false) a l.toArray.size = a from by
      generalize l.toArray.size = n
      induction n with
      | zero => rfl
      | succ n ih => unfold frameOf; simpa using ih] at this
    exact this
  | false =>
    refine wp_region ?_
    have key : ∀ (n : Nat) (w' : World), n ≤ l.toArray.size → Ext w w' → F w' → wpOps P l.toArray Q (List.range' (l.toArray.size - n) n) (frameTo l.toArray vs a (l.toArray.size - n)) w' := by
      intro n
      induction n with
      | zero => intro w' _ hx hF'; exact hK w' hx hF'
      | succ n ih =>
        intro w' hn hx hF'
        rw [List.range'_succ, wpOps_cons]
        have hlt : l.toArray.size - (n + 1) < l.toArray.size := by omega
        have ho : l.toArray[l.toArray.size - (n + 1)]? = some l.toArray[l.toArray.size - (n + 1)] := Array.getElem?_eq_getElem hlt
        have hsel : isSelect l.toArray[l.toArray.size - (n + 1)] = false := by
          have hl' := hl
          unfold looksOk at hl'
          rw [List.all_eq_true] at hl'
          have h1 := hl' _ (List.mem_range.2 hlt)
          rw [ho] at h1
          simp only [Bool.and_eq_true, Bool.not_eq_true'] at h1
          exact h1.1.1
        refine wpOp_fixed ho hsel (fun _ _ => rfl) hF' (hst _ _ (Nat.zero_le _) ho) fun w'' hx' => ?_
        have := ih w'' (by omega) (hx.trans hx') (hcl _ _ hF' hx')
        rw [show l.toArray.size - n = l.toArray.size - (n + 1) + 1 by omega] at this
        unfold frameTo at this
        conv at this => arg 5; unfold frameOf
        rw [if_pos rfl, ho] at this
        exact this
    have := key l.toArray.size w (Nat.le_refl _) (Ext.refl w) hF
    rw [Nat.sub_self] at this
    rw [List.range_eq_range']
    exact this
end
end Go.Proofs.YtlgidjanmaijaaaGreatDoor

/- A region under St, whether its order is drawn or not: walked once in the order of the text; guards may be open. For any program. -/
namespace Go.Proofs.YtlgidjanmaijaaaGreatDoor
set_option linter.all false
open Go.RowKit
section
variable {P : Program} {ops : Array Oper} {F : World → Prop} {K : Act → Prop} {o : Oper} {rest : List Oper} {a : Act} {j : Nat} {p b : Bool} {d : Tmp}
theorem wanted_eq (hg : o.guard = some (j, p)) (hd : (ops[j]?).bind (·.dst) = some d) (ht : a.tmps[d]? = some (.bool b)) : Region.wanted o (yielded ops a.tmps) = (b == p) := by
  have hy : yielded ops a.tmps j = some b := by unfold yielded; rw [hd]; simp [ht]
  cases b <;> cases p <;> simp [Region.wanted, hg, hy]
theorem wanted_true (hg : o.guard = some (j, p)) (hd : (ops[j]?).bind (·.dst) = some d) (ht : a.tmps[d]? = some (.bool b)) (hb : b = p) : Region.wanted o (yielded ops a.tmps) = true := by
  rw [wanted_eq hg hd ht]; simp [hb]
theorem wanted_false (hg : o.guard = some (j, p)) (hd : (ops[j]?).bind (·.dst) = some d) (ht : a.tmps[d]? = some (.bool b)) (hb : b = !p) : Region.wanted o (yielded ops a.tmps) = false := by
  rw [wanted_eq hg hd ht]; subst hb; cases p <;> rfl
theorem Fixed.here {l : List Oper} (h : Fixed P ops F K l a) : Fixed P ops F K l a := h
/-- the guard is open: both ways -/
theorem Fixed.guardT (_ : o.guard = some (j, true)) (_ : (ops[j]?).bind (·.dst) = some d) (_ : a.tmps[d]? = some (.bool b)) (h1 : b = true → Fixed P ops F K (o :: rest) a) (h2 : b = false → Fixed P ops F K (o :: rest) a) : Fixed P ops F K (o :: rest) a := by
  cases hb : b
  · exact h2 hb
  · exact h1 hb
theorem Fixed.guardF (_ : o.guard = some (j, false)) (_ : (ops[j]?).bind (·.dst) = some d) (_ : a.tmps[d]? = some (.bool b)) (h1 : b = false → Fixed P ops F K (o :: rest) a) (h2 : b = true → Fixed P ops F K (o :: rest) a) : Fixed P ops F K (o :: rest) a := by
  cases hb : b
  · exact h1 hb
  · exact h2 hb
theorem Fixed.imp {K' : Act → Prop} (hK : ∀ a, K a → K' a) : ∀ (l : List Oper) (a : Act), Fixed P ops F K l a → Fixed P ops F K' l a
  | [], a, h => hK a h
  | _ :: l, _, .inl ⟨hw, v, hs, h⟩ => .inl ⟨hw, v, hs, Fixed.imp hK l _ h⟩
  | _ :: l, _, .inr ⟨hw, h⟩ => .inr ⟨hw, Fixed.imp hK l _ h⟩
end
end Go.Proofs.YtlgidjanmaijaaaGreatDoor

/- What a call owns, in general: blocks whose cells are known, slices that it builds; each apart from the others; kept over allocations, stores, appends, calls. For any program. -/
namespace Go.Proofs.YtlgidjanmaijaaaGreatDoor
set_option linter.all false
open Go.RowKit

/-- a thing that the call owns: a block with its cells; a slice of n elements with its cells -/
inductive Item where
  | blk (g : Nat) (cs : List Value) (t : TypeId)
  | row (e : TypeId) (size : Nat) (A : Option Addr) (n cap : Nat) (xs : List Value)
  | ob (g : Nat) (o : Obj)
  | mp (m : Option Nat) (o : Obj)
def Item.block : Item → Option Nat
  | .blk g _ _ => some g
  | .row _ _ A _ _ _ => A.map (·.block)
  | .ob g _ => some g
  | .mp m _ => m
def Item.at (B : Nat) (w : World) : Item → Prop
  | .blk g cs t => B ≤ g ∧ w.heap[g]? = some (.cells cs.toArray t (0, 0))
  | .row e size A n cap xs => w.ownsRow B e size (.slice A n cap) n xs
  | .ob g o => B ≤ g ∧ w.heap[g]? = some o
  | .mp m o => ∀ g, m = some g → B ≤ g ∧ w.heap[g]? = some o
def clash (a b : Item) : Prop := a.block = none ∨ a.block ≠ b.block
theorem clash.symm {a b : Item} (h : clash a b) : clash b a := by
  unfold clash at *
  cases hb : b.block with
  | none => exact .inl rfl
  | some g => rcases h with h | h
              · right; rw [h]; simp
              · right; rw [hb] at h; exact fun e => h e.symm
/-- since w0: below B all is as it was; the things of L are the call's own, from B on, apart -/
structure Hp (B : Nat) (w0 w : World) (L : List Item) : Prop where
  below : Below B w0 w
  base : B ≤ w.heap.size
  apart : L.Pairwise clash
  own : ∀ x ∈ L, x.at B w
theorem own_none {A : Option Addr} {n cap : Nat} : (Value.slice A n cap).ownBlock = A.map (·.block) := by cases A <;> rfl
/-- the facts on the blocks' cells -/
def HFacts (w : World) : List Item → Prop
  | [] => True
  | .blk g cs _ :: l => cellFacts w g 0 cs ∧ HFacts w l
  | .row .. :: l => HFacts w l
  | .ob .. :: l => HFacts w l
  | .mp .. :: l => HFacts w l

section
variable {P : Program} {B : Nat} {w0 w w' : World} {L : List Item} {x : Item} {row : Option Nat}
theorem Item.at.lt (h : x.at B w) : ∀ k, x.block = some k → B ≤ k ∧ k < w.heap.size := by
  intro k hk
  cases x with
  | blk g cs t =>
    simp [Item.block] at hk; subst hk
    exact ⟨h.1, heap_lt h.2⟩
  | row e size A n cap xs => exact World.ownsRow.lt h k (by rw [own_none]; exact hk)
  | ob g o =>
    simp [Item.block] at hk; subst hk
    exact ⟨h.1, (Array.getElem?_eq_some_iff.1 h.2).1⟩
  | mp m o => exact ⟨(h k hk).1, (Array.getElem?_eq_some_iff.1 (h k hk).2).1⟩
theorem Item.at.kept (h : x.at B w) (hg : w.grownBy w' row) (hne : x.block = none ∨ x.block ≠ row) : x.at B w' := by
  cases x with
  | blk g cs t =>
    refine ⟨h.1, ?_⟩
    rw [hg.block g (heap_lt h.2) (by simpa [Item.block] using hne)]
    exact h.2
  | row e size A n cap xs => exact World.ownsRow.kept h hg (by rw [own_none]; exact hne)
  | ob g o =>
    refine ⟨h.1, ?_⟩
    rw [hg.block g (Array.getElem?_eq_some_iff.1 h.2).1 (by simpa [Item.block] using hne)]
    exact h.2
  | mp m o =>
    intro g hm
    refine ⟨(h g hm).1, ?_⟩
    rw [hg.block g (Array.getElem?_eq_some_iff.1 (h g hm).2).1 (by subst hm; simpa [Item.block] using hne)]
    exact (h g hm).2
theorem Hp.nil (h : Below B w0 w) (hB : B ≤ w.heap.size) : Hp B w0 w [] := ⟨h, hB, List.Pairwise.nil, fun _ h => by cases h⟩
theorem Hp.init (w : World) : Hp w.heap.size w w [] := Hp.nil (Below.refl _ _) (Nat.le_refl _)
theorem Hp.ext (h : Hp w0.heap.size w0 w L) : Ext w0 w := h.below
theorem Hp.grown (h : Hp B w0 w L) (hg : w.grownBy w' none) : Hp B w0 w' L :=
  ⟨h.below.grown hg h.base (fun k hk => by cases hk), Nat.le_trans h.base hg.size, h.apart, fun x hx => (h.own x hx).kept hg (by cases hb : x.block <;> simp)⟩
theorem Hp.step (h : Hp B w0 w L) (hx : Ext w w') : Hp B w0 w' L := h.grown (hx.grownBy none)
theorem Hp.drew (h : Hp B w0 w L) : Hp B w0 w.drew L := h.step (Ext.refl w).drew
theorem Hp.old (h : Hp B w0 w L) (o : Obj) : Hp B w0 (w.alloc o) L := h.step ((Ext.refl w).alloc o)
theorem Hp.cons (h : Hp B w0 w L) (hx : x.at B w) (hc : ∀ y ∈ L, clash x y) : Hp B w0 w (x :: L) :=
  ⟨h.below, h.base, List.Pairwise.cons hc h.apart, fun y hy => (List.mem_cons.1 hy).elim (fun e => e ▸ hx) (h.own y)⟩
theorem Hp.fresh (h : Hp B w0 w L) {g : Nat} (hx : x.block = some g) (hg : w.heap.size ≤ g) : ∀ y ∈ L, clash x y := fun y hy => by
  right
  rw [hx]
  intro e
  have := (h.own y hy).lt g e.symm
  omega
theorem Hp.alloc (h : Hp B w0 w L) (cs : List Value) (t : TypeId) : Hp B w0 (w.alloc (.cells cs.toArray t)) (.blk w.heap.size cs t :: L) :=
  (h.old _).cons ⟨h.base, heap_alloc_new w _⟩ (h.fresh rfl (Nat.le_refl _))
theorem Hp.nilRow (h : Hp B w0 w L) (e : TypeId) (size : Nat) : Hp B w0 w (.row e size none 0 0 [] :: L) := h.cons (World.ownsRow_nil _ _ _ _) fun _ _ => .inl rfl
theorem Hp.sub {M : List Item} (h : Hp B w0 w L) (hs : M.Sublist L) : Hp B w0 w M := ⟨h.below, h.base, h.apart.sublist hs, fun x hx => h.own x (hs.subset hx)⟩
theorem Hp.drop (i : Nat) (h : Hp B w0 w L) : Hp B w0 w (L.eraseIdx i) := h.sub (List.eraseIdx_sublist L i)
theorem Hp.perm {M : List Item} (h : Hp B w0 w L) (hp : M.Perm L) : Hp B w0 w M := ⟨h.below, h.base, (hp.pairwise_iff (fun h => clash.symm h)).2 h.apart, fun x hx => h.own x (hp.subset hx)⟩
theorem perm_front : ∀ (L : List Item) (i : Nat) (x : Item), L[i]? = some x → (x :: L.eraseIdx i).Perm L
  | [], i, x, h => by simp at h
  | y :: L, 0, x, h => by simp at h; subst h; simp
  | y :: L, i + 1, x, h => by
    rw [List.eraseIdx_cons_succ]
    exact (List.Perm.swap y x _).trans ((perm_front L i x (by simpa using h)).cons y)
/-- the thing at i comes to the head -/
theorem Hp.front (i : Nat) (h : Hp B w0 w L) (hi : L[i]? = some x) : Hp B w0 w (x :: L.eraseIdx i) := h.perm (perm_front L i x hi)
/-- the thing behind the head at i comes to the second place -/
theorem Hp.second (i : Nat) {y : Item} (h : Hp B w0 w (y :: L)) (hi : L[i]? = some x) : Hp B w0 w (y :: x :: L.eraseIdx i) := h.perm ((perm_front L i x hi).cons y)
theorem Hp.tail (h : Hp B w0 w (x :: L)) : Hp B w0 w L := h.sub (List.sublist_cons_self x L)
theorem Hp.head (h : Hp B w0 w (x :: L)) : x.at B w := h.own x (by simp)

/-- the head has been written: a block, a row -/
theorem Hp.turn {y : Item} (h : Hp B w0 w (x :: L)) (hg : w.grownBy w' row) (hr : row = none ∨ row = x.block) (hy : y.at B w') (hb : y.block = x.block ∨ y.block = none ∨ ∃ g, y.block = some g ∧ w.heap.size ≤ g) : Hp B w0 w' (y :: L) := by
  obtain ⟨hc, ha⟩ := List.pairwise_cons.1 h.apart
  refine ⟨h.below.grown hg h.base (fun k hk => ?_), Nat.le_trans h.base hg.size, List.Pairwise.cons (fun z hz => ?_) ha, fun z hz => ?_⟩
  · rcases hr with hr | hr
    · rw [hr] at hk; cases hk
    · exact (h.head.lt k (by rw [← hr]; exact hk)).1
  · rcases hb with hb | hb | ⟨g, hb, hlt⟩
    · have := hc z hz
      unfold clash at *
      rwa [hb]
    · exact .inl hb
    · exact h.fresh hb hlt z (by simp [hz])
  · rcases List.mem_cons.1 hz with rfl | hz
    · exact hy
    · refine (h.own z (by simp [hz])).kept hg ?_
      rcases hr with hr | hr
      · rw [hr]; cases hb : z.block <;> simp
      · rw [hr]; exact (hc z hz).symm
theorem grownBy_set (w : World) (g j : Nat) (u : Value) : w.grownBy (w.setCell ⟨g, j, none⟩ u) (some g) :=
  ⟨rfl, rfl, rfl, by simp [World.setCell], fun k _ hk => heap_set_other (by simpa using hk)⟩
theorem Hp.put0 {g : Nat} {cs : List Value} {t : TypeId} (h : Hp B w0 w (.blk g cs t :: L)) (j : Nat) (u : Value) : Hp B w0 (w.setCell ⟨g, j, none⟩ u) (.blk g (cs.set j u) t :: L) :=
  h.turn (grownBy_set w g j u) (.inr rfl) ⟨h.head.1, by rw [heap_set h.head.2]; simp⟩ (.inl rfl)
theorem set_perm : ∀ (L : List Item) (i : Nat) (x y : Item), L[i]? = some x → (L.set i y).Perm (y :: L.eraseIdx i)
  | [], i, x, y, h => by simp at h
  | z :: L, 0, x, y, h => by simp
  | z :: L, i + 1, x, y, h => by
    rw [List.eraseIdx_cons_succ, List.set_cons_succ]
    exact ((set_perm L i x y (by simpa using h)).cons z).trans (List.Perm.swap y z _)
theorem Hp.put {g : Nat} {cs : List Value} {t : TypeId} {i j : Nat} {u : Value} (h : Hp B w0 w L) (hi : L[i]? = some (.blk g cs t)) : Hp B w0 (w.setCell ⟨g, j, none⟩ u) (L.set i (.blk g (cs.set j u) t)) :=
  ((h.front i hi).put0 j u).perm (set_perm L i _ _ hi)
theorem Hp.putRow {e : TypeId} {size g n cap : Nat} {xs : List Value} (h : Hp B w0 w (.row e size (some ⟨g, 0, none⟩) n cap xs :: L)) (j : Nat) (u : Value) : Hp B w0 (w.setCell ⟨g, j, none⟩ u) (.row e size (some ⟨g, 0, none⟩) n cap (xs.set j u) :: L) :=
  h.turn (grownBy_set w g j u) (.inr rfl) (World.ownsRow.stored h.head j u).1 (.inl rfl)
theorem Hp.blkAt {g : Nat} {cs : List Value} {t : TypeId} (h : Hp B w0 w L) (i : Nat) (hi : L[i]? = some (.blk g cs t)) : w.heap[g]? = some (.cells cs.toArray t (0, 0)) := (h.own _ (List.mem_of_getElem? hi)).2

theorem Item.at.mono {B2 : Nat} (h : x.at B w) (hb : B2 ≤ B) : x.at B2 w := by
  cases x with
  | blk g cs t => exact ⟨Nat.le_trans hb h.1, h.2⟩
  | ob g o => exact ⟨Nat.le_trans hb h.1, h.2⟩
  | mp m o => exact fun g hm => ⟨Nat.le_trans hb (h g hm).1, (h g hm).2⟩
  | row e size A n cap xs =>
    refine ⟨(show w.ownsRow B e size (.slice A n cap) n xs from h).1, ?_⟩
    rcases (show w.ownsRow B e size (.slice A n cap) n xs from h).2 with h | ⟨g, cp, cur, h1, h2, h3⟩
    · exact .inl h
    · exact .inr ⟨g, cp, cur, h1, Nat.le_trans hb h2, h3⟩
/-- what a call that owns nothing of ours hands back is ours from then on -/
theorem Hp.join {M : List Item} (h : Hp B w0 w L) (k : Hp w.heap.size w w' M) : Hp B w0 w' (M ++ L) := by
  have h' := h.step k.ext
  refine ⟨h'.below, h'.base, List.pairwise_append.2 ⟨k.apart, h'.apart, fun a ha b hb => ?_⟩, fun z hz => ?_⟩
  · cases hab : a.block with
    | none => exact .inl hab
    | some g =>
      right
      rw [hab]
      intro e
      have h1 := ((k.own a ha).lt g hab).1
      have h2 := ((h.own b hb).lt g e.symm).2
      omega
  · rcases List.mem_append.1 hz with hz | hz
    · exact (k.own z hz).mono h.base
    · exact h'.own z hz
theorem hfacts_of : ∀ L : List Item, (∀ x ∈ L, x.at B w) → HFacts w L
  | [], _ => trivial
  | .blk g cs t :: L, h => ⟨cellFacts_of (h (.blk g cs t) (by simp)).2 cs 0 (fun k => by simp), hfacts_of L fun y hy => h y (by simp [hy])⟩
  | .row .. :: L, h => hfacts_of L fun y hy => h y (by simp [hy])
  | .ob .. :: L, h => hfacts_of L fun y hy => h y (by simp [hy])
  | .mp .. :: L, h => hfacts_of L fun y hy => h y (by simp [hy])
theorem Hp.facts (h : Hp B w0 w L) : HFacts w L := hfacts_of L h.own

/-- append of m elements that lie at ad -/
theorem run_append_hp {t ty e : TypeId} {size bytes n m c cap : Nat} {A : Option Addr} {xs news : List Value} (hE : Elem P t e size bytes) (h : Hp B w0 w (.row e size A n cap xs :: L)) (ad : Addr) (hl : news.length = m * size)
    (hnews : ∀ j u, news[j]? = some u → w.cell? (ad.add j) = some u) (h1 : ∀ u ∈ news, u.oneCell' = true) (hn : (n + m) * bytes ≤ 140737488355328) (hm : n + m ≤ 140737488355328) :
    ∃ A' cap' w', (Builtin.append_ #[t, t] ty #[.slice A n cap, .slice (some ad) m c]).run P w = .ok (.slice A' (n + m : Nat) cap') w' ∧ Hp B w0 w' (.row e size A' (n + m) cap' (xs ++ news) :: L) := by
  obtain ⟨i, z, hi, hz, hsz, hby, hzs⟩ := hE.info
  have hown : w.ownsRow B e size (.slice A n cap) n xs := h.head
  obtain ⟨v', w', hr, hown', hg, hnil, hat⟩ := run_append_own_at (P := P) w B t ty e i z size bytes hE.under hi hz hsz hby hzs hE.pos _ n xs hown ad m c news hl hnews h1 (by unfold maxLen; omega) hn h.base
  have hv : ∃ A' cap', v' = .slice A' (n + m : Nat) cap' := by
    rcases hown'.2 with ⟨rfl, h0⟩ | ⟨g, cp, cur, rfl, _⟩
    · exact ⟨none, 0, by rw [h0]⟩
    · exact ⟨_, _, rfl⟩
  obtain ⟨A', cap', rfl⟩ := hv
  refine ⟨A', cap', w', hr, h.turn hg (.inr own_none) hown' ?_⟩
  rw [own_none, own_none] at hat
  rcases hat with hat | hat
  · exact .inl hat
  · exact .inr (.inr ⟨_, hat, Nat.le_refl _⟩)
theorem wpList_append_hp {t e : TypeId} {size bytes n m c cap : Nat} {A : Option Addr} {xs news : List Value} (hE : Elem P t e size bytes) {ops : Array Oper} {rest : List Oper} {o : Oper} {a : Act} {Q : Exit → Act → World → Prop} (hgd : o.guard = none) (s x : Operand)
    (ho : o.op = .call { callee := .builtin .append, args := #[s, x], argTypes := #[t, t] }) (h : Hp B w0 w (.row e size A n cap xs :: L)) (hs : a.eval s = .slice A n cap) (ad : Addr) (hx : a.eval x = .slice (some ad) m c) (hl : news.length = m * size)
    (hnews : ∀ j u, news[j]? = some u → w.cell? (ad.add j) = some u) (h1 : ∀ u ∈ news, u.oneCell' = true) (hn : (n + m) * bytes ≤ 140737488355328) (hm : n + m ≤ 140737488355328)
    (k : ∀ A' cap' w', Hp B w0 w' (.row e size A' (n + m) cap' (xs ++ news) :: L) → wpList P ops Q rest (a.put o.dst (.slice A' (n + m : Nat) cap')) w') : wpList P ops Q (o :: rest) a w := by
  refine wpList_plain hgd fun K hK => ?_
  obtain ⟨A', cap', w', hr, h2⟩ := run_append_hp (P := P) (c := c) (ty := o.type) hE h ad hl hnews h1 hn hm
  unfold Oper.wp execOp
  simp only [ho, resolve, invoke, builtin, Sem.run_bind, Sem.run_pure, Result.andThen_ok, List.map_toArray, List.map_cons, List.map_nil, hs, hx, hr]
  exact hK _ _ (k A' cap' w' h2)
/-- append of the one element that lies in the block at the head -/
theorem wpList_push_hp {t e : TypeId} {size bytes n c cap S : Nat} {A : Option Addr} {xs news : List Value} (hE : Elem P t e size bytes) {ops : Array Oper} {rest : List Oper} {o : Oper} {a : Act} {Q : Exit → Act → World → Prop} (hgd : o.guard = none) (s x : Operand)
    (ho : o.op = .call { callee := .builtin .append, args := #[s, x], argTypes := #[t, t] }) (h : Hp B w0 w (.blk S news e :: .row e size A n cap xs :: L)) (hs : a.eval s = .slice A n cap) (hx : a.eval x = .slice (some ⟨S, 0, none⟩) 1 c) (hl : news.length = size)
    (h1 : ∀ u ∈ news, u.oneCell' = true) (hn : (n + 1) * bytes ≤ 140737488355328) (hm : n + 1 ≤ 140737488355328)
    (k : ∀ A' cap' w', Hp B w0 w' (.row e size A' (n + 1) cap' (xs ++ news) :: L) → wpList P ops Q rest (a.put o.dst (.slice A' (n + 1 : Nat) cap')) w') : wpList P ops Q (o :: rest) a w := by
  refine wpList_append_hp hE hgd s x ho h.tail hs ⟨S, 0, none⟩ hx (by simpa using hl) (fun j u hu => ?_) h1 hn hm k
  exact World.news_of_block h.head.2 j u (by simpa using hu)
/-- append of nothing -/
theorem run_append_nilsrc {t ty e : TypeId} {size bytes n cap : Nat} {A : Option Addr} {xs : List Value} (hE : Elem P t e size bytes) (h : Hp B w0 w (.row e size A n cap xs :: L)) :
    (Builtin.append_ #[t, t] ty #[.slice A n cap, .slice none 0 0]).run P w = .ok (.slice A n cap) w := by
  obtain ⟨i, z, hi, hz, hsz, hby, hzs⟩ := hE.info
  have hc : n ≤ cap := by
    rcases (show w.ownsRow B e size (.slice A n cap) n xs from h.head).2 with ⟨hv, h0⟩ | ⟨g, cp, cur, hv, _, _, hc, _⟩
    · omega
    · obtain ⟨rfl, _, rfl⟩ : A = some ⟨g, 0, none⟩ ∧ n = n ∧ cap = cp := by simpa using hv
      exact hc
  cases A <;> simp [Builtin.append_, run_underlying hE.under, sizeOf, typeInfo, hi, Builtin.lenOf, Builtin.firstCells, loadCells, loadCellsFrom, hc, storeCells]
/-- the cells of a row -/
theorem Hp.rowCell {e : TypeId} {size n cap : Nat} {A : Option Addr} {xs : List Value} (h : Hp B w0 w L) (i : Nat) (hi : L[i]? = some (.row e size A n cap xs)) {j : Nat} {u : Value} (hj : xs[j]? = some u) :
    ∃ g, A = some ⟨g, 0, none⟩ ∧ w.cell? ⟨g, j, none⟩ = some u ∧ w.frozen? ⟨g, j, none⟩ = false := by
  have ho : w.ownsRow B e size (.slice A n cap) n xs := h.own _ (List.mem_of_getElem? hi)
  rcases ho.2 with ⟨hv, h0⟩ | ⟨g, cp, cur, hv, _⟩
  · have := ho.1
    rw [h0, Nat.zero_mul] at this
    rw [List.eq_nil_of_length_eq_zero this] at hj
    simp at hj
  · obtain ⟨rfl, _, rfl⟩ : A = some ⟨g, 0, none⟩ ∧ n = n ∧ cap = cp := by simpa using hv
    refine ⟨g, rfl, ?_, ho.frozenAt j⟩
    have e : (⟨g, 0, none⟩ : Addr).add j = ⟨g, j, none⟩ := by unfold Addr.add; split <;> simp_all
    rw [← e]
    exact ho.cells (g := g) rfl j u hj
theorem Hp.rowNil {e : TypeId} {size n cap : Nat} {xs : List Value} (h : Hp B w0 w L) (i : Nat) (hi : L[i]? = some (.row e size none n cap xs)) : n = 0 ∧ cap = 0 ∧ xs = [] := by
  have ho : w.ownsRow B e size (.slice none n cap) n xs := h.own _ (List.mem_of_getElem? hi)
  rcases ho.2 with ⟨hv, h0⟩ | ⟨g, cp, cur, hv, _⟩
  · obtain ⟨_, rfl⟩ : n = 0 ∧ cap = 0 := by simpa using hv
    exact ⟨h0, rfl, List.eq_nil_of_length_eq_zero (by have := ho.1; rw [h0] at this; simpa using this)⟩
  · simp at hv
theorem Hp.rowLen {e : TypeId} {size n cap : Nat} {A : Option Addr} {xs : List Value} (h : Hp B w0 w L) (i : Nat) (hi : L[i]? = some (.row e size A n cap xs)) : xs.length = n * size ∧ n ≤ cap := by
  have ho : w.ownsRow B e size (.slice A n cap) n xs := h.own _ (List.mem_of_getElem? hi)
  refine ⟨ho.1, ?_⟩
  rcases ho.2 with ⟨hv, h0⟩ | ⟨g, cp, cur, hv, _, _, hc, _⟩
  · omega
  · obtain ⟨rfl, _, rfl⟩ : A = some ⟨g, 0, none⟩ ∧ n = n ∧ cap = cp := by simpa using hv
    exact hc

theorem abs_hlist_alloc {W : World} {o : Obj} {ops : Array Oper} {Q : Exit → Act → World → Prop} {l : List Oper} {a : Act} (h : Hp B w0 (W.alloc o) L) (k : ∀ w, Hp B w0 w L → wpList P ops Q l a w) : wpList P ops Q l a (W.alloc o) := k _ h
theorem abs_hlist_set {W : World} {p : Addr} {u : Value} {ops : Array Oper} {Q : Exit → Act → World → Prop} {l : List Oper} {a : Act} (h : Hp B w0 (W.setCell p u) L) (k : ∀ w, Hp B w0 w L → wpList P ops Q l a w) : wpList P ops Q l a (W.setCell p u) := k _ h
theorem abs_hlist_drew {W : World}  {ops : Array Oper} {Q : Exit → Act → World → Prop} {l : List Oper} {a : Act} (h : Hp B w0 (W.drew) L) (k : ∀ w, Hp B w0 w L → wpList P ops Q l a w) : wpList P ops Q l a (W.drew) := k _ h
theorem abs_hcode_alloc {W : World} {o : Obj} {c : Code} {Q : Exit → Act → World → Prop} {a : Act} (h : Hp B w0 (W.alloc o) L) (k : ∀ w, Hp B w0 w L → Code.wp P c Q a w) : Code.wp P c Q a (W.alloc o) := k _ h
theorem abs_hcode_set {W : World} {p : Addr} {u : Value} {c : Code} {Q : Exit → Act → World → Prop} {a : Act} (h : Hp B w0 (W.setCell p u) L) (k : ∀ w, Hp B w0 w L → Code.wp P c Q a w) : Code.wp P c Q a (W.setCell p u) := k _ h
theorem abs_hcode_drew {W : World}  {c : Code} {Q : Exit → Act → World → Prop} {a : Act} (h : Hp B w0 (W.drew) L) (k : ∀ w, Hp B w0 w L → Code.wp P c Q a w) : Code.wp P c Q a (W.drew) := k _ h
theorem abs_hpost_alloc {W : World} {o : Obj} {fn : Func} {R : Ending → World → Prop} {x : Exit} {a : Act} (h : Hp B w0 (W.alloc o) L) (k : ∀ w, Hp B w0 w L → bodyPost P fn R x a w) : bodyPost P fn R x a (W.alloc o) := k _ h
theorem abs_hpost_set {W : World} {p : Addr} {u : Value} {fn : Func} {R : Ending → World → Prop} {x : Exit} {a : Act} (h : Hp B w0 (W.setCell p u) L) (k : ∀ w, Hp B w0 w L → bodyPost P fn R x a w) : bodyPost P fn R x a (W.setCell p u) := k _ h
theorem abs_hpost_drew {W : World}  {fn : Func} {R : Ending → World → Prop} {x : Exit} {a : Act} (h : Hp B w0 (W.drew) L) (k : ∀ w, Hp B w0 w L → bodyPost P fn R x a w) : bodyPost P fn R x a (W.drew) := k _ h
theorem abs_hcalls_alloc {W : World} {o : Obj} {f : FuncId} {R : Ending → World → Prop} {args : Array Value} (h : Hp B w0 (W.alloc o) L) (k : ∀ w, Hp B w0 w L → Calls P f args w R) : Calls P f args (W.alloc o) R := k _ h
theorem abs_hcalls_set {W : World} {p : Addr} {u : Value} {f : FuncId} {R : Ending → World → Prop} {args : Array Value} (h : Hp B w0 (W.setCell p u) L) (k : ∀ w, Hp B w0 w L → Calls P f args w R) : Calls P f args (W.setCell p u) R := k _ h
theorem abs_hcalls_drew {W : World}  {f : FuncId} {R : Ending → World → Prop} {args : Array Value} (h : Hp B w0 (W.drew) L) (k : ∀ w, Hp B w0 w L → Calls P f args w R) : Calls P f args (W.drew) R := k _ h

/-- a region of quiet operations under Hp -/
theorem wp_region_hp {Q : Exit → Act → World → Prop} {id : Nat} {l : List Oper} {draw : Bool} {a : Act} (hm : P.follows .mixedOrders = true) (hok : fixedOk l.toArray = true)
    (hS : Hp B w0 w L) (h : Fixed P l.toArray (fun W => Hp B w0 W L) (fun a' => ∀ w', Hp B w0 w' L → Q .normal a' w') l a) : (Code.region id l.toArray draw).wp P Q a w :=
  wp_region_fixed (F := fun W => Hp B w0 W L) hm hok (fun _ _ h hx => Hp.step h hx) hS (Fixed.imp (fun _ hk w' _ hs => hk w' hs) l a h)
end
-- the world that has just been turned is forgotten (the tactic finds what is owned of it)
section
variable {P : Program} {B : Nat} {w0 : World} {L : List Item}
theorem nhLa {W : World} {o : Obj} {ops : Array Oper} {Q : Exit → Act → World → Prop} {l : List Oper} {a : Act} (k : ∀ w, Hp B w0 w L → wpList P ops Q l a w) (h : Hp B w0 (W.alloc o) L := by (repeat (first | with_reducible exact hS | with_reducible apply Hp.drew | with_reducible apply Hp.alloc | with_reducible apply Hp.put | with_reducible apply atS | with_reducible exact at0 | with_reducible exact at1 | with_reducible exact at2 | with_reducible exact at3 | with_reducible exact at4 | with_reducible exact at5))) : wpList P ops Q l a (W.alloc o) := k _ h
theorem nhLs {W : World} {p : Addr} {u : Value} {ops : Array Oper} {Q : Exit → Act → World → Prop} {l : List Oper} {a : Act} (k : ∀ w, Hp B w0 w L → wpList P ops Q l a w) (h : Hp B w0 (W.setCell p u) L := by (repeat (first | with_reducible exact hS | with_reducible apply Hp.drew | with_reducible apply Hp.alloc | with_reducible apply Hp.put | with_reducible apply atS | with_reducible exact at0 | with_reducible exact at1 | with_reducible exact at2 | with_reducible exact at3 | with_reducible exact at4 | with_reducible exact at5))) : wpList P ops Q l a (W.setCell p u) := k _ h
theorem nhLd {W : World} {ops : Array Oper} {Q : Exit → Act → World → Prop} {l : List Oper} {a : Act} (k : ∀ w, Hp B w0 w L → wpList P ops Q l a w) (h : Hp B w0 W.drew L := by (repeat (first | with_reducible exact hS | with_reducible apply Hp.drew | with_reducible apply Hp.alloc | with_reducible apply Hp.put | with_reducible apply atS | with_reducible exact at0 | with_reducible exact at1 | with_reducible exact at2 | with_reducible exact at3 | with_reducible exact at4 | with_reducible exact at5))) : wpList P ops Q l a W.drew := k _ h
theorem nhCa {W : World} {o : Obj} {c : Code} {Q : Exit → Act → World → Prop} {a : Act} (k : ∀ w, Hp B w0 w L → Code.wp P c Q a w) (h : Hp B w0 (W.alloc o) L := by (repeat (first | with_reducible exact hS | with_reducible apply Hp.drew | with_reducible apply Hp.alloc | with_reducible apply Hp.put | with_reducible apply atS | with_reducible exact at0 | with_reducible exact at1 | with_reducible exact at2 | with_reducible exact at3 | with_reducible exact at4 | with_reducible exact at5))) : Code.wp P c Q a (W.alloc o) := k _ h
theorem nhCs {W : World} {p : Addr} {u : Value} {c : Code} {Q : Exit → Act → World → Prop} {a : Act} (k : ∀ w, Hp B w0 w L → Code.wp P c Q a w) (h : Hp B w0 (W.setCell p u) L := by (repeat (first | with_reducible exact hS | with_reducible apply Hp.drew | with_reducible apply Hp.alloc | with_reducible apply Hp.put | with_reducible apply atS | with_reducible exact at0 | with_reducible exact at1 | with_reducible exact at2 | with_reducible exact at3 | with_reducible exact at4 | with_reducible exact at5))) : Code.wp P c Q a (W.setCell p u) := k _ h
theorem nhCd {W : World} {c : Code} {Q : Exit → Act → World → Prop} {a : Act} (k : ∀ w, Hp B w0 w L → Code.wp P c Q a w) (h : Hp B w0 W.drew L := by (repeat (first | with_reducible exact hS | with_reducible apply Hp.drew | with_reducible apply Hp.alloc | with_reducible apply Hp.put | with_reducible apply atS | with_reducible exact at0 | with_reducible exact at1 | with_reducible exact at2 | with_reducible exact at3 | with_reducible exact at4 | with_reducible exact at5))) : Code.wp P c Q a W.drew := k _ h
theorem nhPa {W : World} {o : Obj} {fn : Func} {R : Ending → World → Prop} {x : Exit} {a : Act} (k : ∀ w, Hp B w0 w L → bodyPost P fn R x a w) (h : Hp B w0 (W.alloc o) L := by (repeat (first | with_reducible exact hS | with_reducible apply Hp.drew | with_reducible apply Hp.alloc | with_reducible apply Hp.put | with_reducible apply atS | with_reducible exact at0 | with_reducible exact at1 | with_reducible exact at2 | with_reducible exact at3 | with_reducible exact at4 | with_reducible exact at5))) : bodyPost P fn R x a (W.alloc o) := k _ h
theorem nhPs {W : World} {p : Addr} {u : Value} {fn : Func} {R : Ending → World → Prop} {x : Exit} {a : Act} (k : ∀ w, Hp B w0 w L → bodyPost P fn R x a w) (h : Hp B w0 (W.setCell p u) L := by (repeat (first | with_reducible exact hS | with_reducible apply Hp.drew | with_reducible apply Hp.alloc | with_reducible apply Hp.put | with_reducible apply atS | with_reducible exact at0 | with_reducible exact at1 | with_reducible exact at2 | with_reducible exact at3 | with_reducible exact at4 | with_reducible exact at5))) : bodyPost P fn R x a (W.setCell p u) := k _ h
theorem nhPd {W : World} {fn : Func} {R : Ending → World → Prop} {x : Exit} {a : Act} (k : ∀ w, Hp B w0 w L → bodyPost P fn R x a w) (h : Hp B w0 W.drew L := by (repeat (first | with_reducible exact hS | with_reducible apply Hp.drew | with_reducible apply Hp.alloc | with_reducible apply Hp.put | with_reducible apply atS | with_reducible exact at0 | with_reducible exact at1 | with_reducible exact at2 | with_reducible exact at3 | with_reducible exact at4 | with_reducible exact at5))) : bodyPost P fn R x a W.drew := k _ h
theorem nhKa {W : World} {o : Obj} {f : FuncId} {R : Ending → World → Prop} {args : Array Value} (k : ∀ w, Hp B w0 w L → Calls P f args w R) (h : Hp B w0 (W.alloc o) L := by (repeat (first | with_reducible exact hS | with_reducible apply Hp.drew | with_reducible apply Hp.alloc | with_reducible apply Hp.put | with_reducible apply atS | with_reducible exact at0 | with_reducible exact at1 | with_reducible exact at2 | with_reducible exact at3 | with_reducible exact at4 | with_reducible exact at5))) : Calls P f args (W.alloc o) R := k _ h
theorem nhKs {W : World} {p : Addr} {u : Value} {f : FuncId} {R : Ending → World → Prop} {args : Array Value} (k : ∀ w, Hp B w0 w L → Calls P f args w R) (h : Hp B w0 (W.setCell p u) L := by (repeat (first | with_reducible exact hS | with_reducible apply Hp.drew | with_reducible apply Hp.alloc | with_reducible apply Hp.put | with_reducible apply atS | with_reducible exact at0 | with_reducible exact at1 | with_reducible exact at2 | with_reducible exact at3 | with_reducible exact at4 | with_reducible exact at5))) : Calls P f args (W.setCell p u) R := k _ h
theorem nhKd {W : World} {f : FuncId} {R : Ending → World → Prop} {args : Array Value} (k : ∀ w, Hp B w0 w L → Calls P f args w R) (h : Hp B w0 W.drew L := by (repeat (first | with_reducible exact hS | with_reducible apply Hp.drew | with_reducible apply Hp.alloc | with_reducible apply Hp.put | with_reducible apply atS | with_reducible exact at0 | with_reducible exact at1 | with_reducible exact at2 | with_reducible exact at3 | with_reducible exact at4 | with_reducible exact at5))) : Calls P f args W.drew R := k _ h
end
-- the short words (merge.py puts them): hF's facts; the world that was turned, forgotten
theorem hfI {Q G : Prop} (g : Q → G) (h : Q := by ((first | have hF := And.intro hS.facts (HRD.out _ (hS.sub (by first | simp | ((repeat (first | exact List.nil_sublist _ | exact List.Sublist.refl _ | with_reducible apply List.Sublist.cons₂ | apply List.Sublist.cons)))))) | have hF := And.intro hS.facts (hR.at hS.ext) | have hF := hS.facts); simp only [HFacts, cellFacts, RFacts, cellOnly, and_true, true_and, Nat.zero_add, Nat.reduceAdd] at hF; first | exact hF | exact trivial)) : G := g h
theorem hpn {B : Nat} {w0 W : World} {L : List Item} (h : Hp B w0 W L := by (repeat (first | with_reducible exact hS | with_reducible apply Hp.drew | with_reducible apply Hp.alloc | with_reducible apply Hp.put | with_reducible apply atS | with_reducible exact at0 | with_reducible exact at1 | with_reducible exact at2 | with_reducible exact at3 | with_reducible exact at4 | with_reducible exact at5))) : Hp B w0 W L := h
theorem hab {Q G : Prop} (k : Q) (h : Q → G := by with_reducible first | exact abs_hlist_alloc hpn | exact abs_hlist_set hpn | exact abs_hlist_drew hpn | exact abs_hcode_alloc hpn | exact abs_hcode_set hpn | exact abs_hcode_drew hpn | exact abs_hpost_alloc hpn | exact abs_hpost_set hpn | exact abs_hpost_drew hpn | exact abs_hcalls_alloc hpn | exact abs_hcalls_set hpn | exact abs_hcalls_drew hpn) : G := h k
end Go.Proofs.YtlgidjanmaijaaaGreatDoor

/- numbers in letters: what ParseInt answers. -/
namespace Go.Proofs.YtlgidjanmaijaaaGreatDoor
set_option linter.unusedSimpArgs false
set_option linter.unusedVariables false
open Go.RowKit
set_option linter.all false
def itoS (n : Int) : ByteArray := ⟨(Lib.itoa n).toArray⟩
theorem pM_app (M : Nat) : ∀ (l : List UInt8) (acc : Nat) (m : List UInt8), Lib.parseUintM M acc (l ++ m) = (match Lib.parseUintM M acc l with | .ok a => Lib.parseUintM M a m | e => e)
  | [], acc, m => rfl
  | c :: l, acc, m => by
    rw [List.cons_append]
    simp only [Lib.parseUintM]
    split
    · split
      · rfl
      · split
        · rfl
        · exact pM_app M l _ m
    · rfl
theorem dig_nat {d : Nat} (h : d < 10) : (UInt8.ofNat (48 + d)).toNat = 48 + d := by
  rw [UInt8.toNat_ofNat']
  omega
theorem pM_dec (u : Nat) (hu : u < 18446744073709551616) : Lib.parseUintM (2 ^ 64 - 1) 0 (Lib.decDigits u) = .ok u := by
  rw [Lib.decDigits]
  split
  · rename_i h
    simp only [Lib.parseUintM]
    rw [dig_nat h, if_pos (by omega), if_neg (by omega), if_neg (by omega)]
    congr 1
    omega
  · rename_i h
    rw [pM_app, pM_dec (u / 10) (by omega)]
    simp only [Lib.parseUintM]
    rw [dig_nat (Nat.mod_lt u (by omega)), if_pos (by omega), if_neg (by omega), if_neg (by omega)]
    congr 1
    omega
termination_by u
theorem dec_cons (u : Nat) : ∃ c r, Lib.decDigits u = c :: r ∧ 48 ≤ c.toNat ∧ c.toNat ≤ 57 := by
  rw [Lib.decDigits]
  split
  · rename_i h
    exact ⟨_, _, rfl, by rw [dig_nat h]; omega, by rw [dig_nat h]; omega⟩
  · obtain ⟨c, r, h1, h2, h3⟩ := dec_cons (u / 10)
    exact ⟨c, r ++ _, by rw [h1]; rfl, h2, h3⟩
termination_by u
theorem parse_itoa (n : Int) (hn : i64 n) : Lib.parseIntB 64 (Lib.itoa n) = .ok n := by
  unfold i64 at hn
  unfold Lib.itoa
  split
  · rename_i h
    obtain ⟨c, r, h1, h2, h3⟩ := dec_cons n.natAbs
    have hp : Lib.parseUintB 64 (Lib.decDigits n.natAbs) = .ok n.natAbs := by
      unfold Lib.parseUintB
      rw [if_neg (by rw [h1]; simp), pM_dec _ (by omega)]
    simp only [Lib.parseIntB, show (45 : UInt8).toNat = 45 from rfl, or_true, if_true]
    rw [hp]
    simp only [not_true_eq_false, false_and, if_false, true_and, if_true]
    rw [if_neg (by omega)]
    congr 1
    omega
  · rename_i h
    obtain ⟨c, r, h1, h2, h3⟩ := dec_cons n.toNat
    have hp : Lib.parseUintB 64 (c :: r) = .ok n.toNat := by
      unfold Lib.parseUintB
      rw [if_neg (by simp), ← h1, pM_dec _ (by omega)]
    rw [h1]
    simp only [Lib.parseIntB]
    rw [if_neg (by omega), hp]
    simp only
    rw [if_neg (by omega), if_neg (by omega), if_neg (by omega)]
    congr 1
    omega
theorem parse_i64 {l : List UInt8} {v : Int} (h : Lib.parseIntB 64 l = .ok v) : i64 v := by
  unfold Lib.parseIntB at h
  unfold i64
  split at h
  · cases h
  · simp only at h
    split at h
    · cases h
    · cases h
    · rename_i u hu
      split at h
      · cases h
      · split at h
        · cases h
        · rename_i h1 h2
          injection h with h
          subst h
          split <;> omega
def numOf64 (s : ByteArray) : Option Int := match Lib.parseIntB 64 s.data.toList with
  | .ok v => if (itoS v).toList == s.toList then some v else none
  | _ => none
theorem ba_toList_loopN (bs : ByteArray) (i : Nat) (r : List UInt8) : ByteArray.toList.loop bs i r = r.reverse ++ bs.data.toList.drop i := by
  rw [ByteArray.toList.loop]
  split
  · rename_i h
    rw [ba_toList_loopN]
    have h2 : i < bs.data.toList.length := by simpa using h
    rw [List.drop_eq_getElem_cons h2]
    simp only [List.reverse_cons, List.append_assoc, List.cons_append, List.nil_append]
    congr 2
    simp only [ByteArray.get!, Array.getElem!_eq_getD, Array.getD]
    rw [dif_pos (show i < bs.data.size from h)]
    rfl
  · rename_i h
    rw [List.drop_eq_nil_of_le (by have : bs.data.toList.length = bs.size := by rw [Array.length_toList]; rfl
                                   omega)]
    simp
termination_by bs.size - i
theorem ba_toListN (bs : ByteArray) : bs.toList = bs.data.toList := by
  unfold ByteArray.toList
  rw [ba_toList_loopN]
  simp
theorem ba_beq {p q : ByteArray} : (p.toList == q.toList) = true ↔ p = q := by
  rw [beq_iff_eq, ba_toListN, ba_toListN]
  exact ⟨fun h => ByteArray.ext (Array.toList_inj.1 h), fun h => by rw [h]⟩
-- the library's two errors
def SynAt (w : World) : Prop := ∃ tp p, w.var? Tryz.prog "strconv.ErrSyntax" = some #[.iface tp p]
def RngAt (w : World) : Prop := ∃ tp p, w.var? Tryz.prog "strconv.ErrRange" = some #[.iface tp p]
theorem var_ext {w w' : World} {name : String} {g : Nat} {cs : Array Value} (hg : Tryz.prog.globalNamed name = some g) (h : w.var? Tryz.prog name = some cs) (hx : Ext w w') : w'.var? Tryz.prog name = some cs := by
  unfold World.var? at *
  rw [hg] at h ⊢
  simp only [Option.bind_some] at h ⊢
  have hlt : g < w.heap.size := by
    by_cases hc : g < w.heap.size
    · exact hc
    · rw [Array.getElem?_eq_none (by omega)] at h
      cases h
  rw [hx.block g hlt]
  exact h
theorem SynAt.ext {w w' : World} (h : SynAt w) (hx : Ext w w') : SynAt w' := by
  obtain ⟨tp, p, h⟩ := h
  exact ⟨tp, p, var_ext (g := 6) (by kernel_rfl) h hx⟩
theorem RngAt.ext {w w' : World} (h : RngAt w) (hx : Ext w w') : RngAt w' := by
  obtain ⟨tp, p, h⟩ := h
  exact ⟨tp, p, var_ext (g := 7) (by kernel_rfl) h hx⟩
theorem ext_bytes {w w' : World} {e : TypeId} (h : w' = w ∨ ∃ t, w' = Lib.bytesWorld w e t) : Ext w w' := by
  rcases h with rfl | ⟨t, rfl⟩
  · exact Ext.refl _
  · exact Go.Joins.below_bytesWorld _ _ _ _ (Nat.le_refl _)
/-- how ParseInt ends -/
theorem parseInt_any (s : ByteArray) (hs : s.size ≤ 1000000) (w : World) (hy : SynAt w) (hr : RngAt w) :
    Calls Tryz.prog 81 #[.string s, .int .i64 10, .int .i64 64] w fun e w' => (∃ (n : Int) (er : Value), e = .returned (.tuple #[.int .i64 n, er]) ∧ ((er = .nilIface ∧ Lib.parseIntB 64 s.data.toList = .ok n) ∨ (∃ tp pv, er = .iface tp pv) ∧ numOf64 s = none)) ∧ Ext w w' := by
  match h : Lib.parseIntB 64 s.data.toList with
  | .ok v => exact (Tryz.strconv_ParseInt_10_at64_ok s (by omega) v h w).mono fun e w' ⟨h1, h2⟩ => ⟨⟨v, .nilIface, h1, .inl ⟨rfl, rfl⟩⟩, ext_bytes h2⟩
  | Lib.NumEnd.syntax =>
    obtain ⟨tp, p, hy⟩ := hy
    exact (Tryz.strconv_ParseInt_10_at64_syntax_var s (by omega) h tp p w hy).mono fun e w' ⟨N, h1, _, _, h2⟩ => ⟨⟨0, _, h1, .inr ⟨⟨_, _, rfl⟩, by unfold numOf64; rw [h]⟩⟩, h2⟩
  | .range =>
    obtain ⟨tp, p, hr⟩ := hr
    exact (Tryz.strconv_ParseInt_10_at64_range_var s (by omega) h tp p w hr).mono fun e w' ⟨N, h1, _, _, h2⟩ => ⟨⟨_, _, h1, .inr ⟨⟨_, _, rfl⟩, by unfold numOf64; rw [h]⟩⟩, h2⟩
/-- the number that letters are -/
def int64 (s : ByteArray) : Option Int := match Lib.parseIntB 64 s.data.toList with
  | .ok v => some v
  | _ => none
end Go.Proofs.YtlgidjanmaijaaaGreatDoor

/- lists of letters: numbers, cuts, trims: plain. -/
namespace Go.Proofs.YtlgidjanmaijaaaGreatDoor
set_option linter.unusedSimpArgs false
set_option linter.unusedVariables false
open Go.RowKit
set_option linter.all false
theorem ba_ext {a b : ByteArray} (h : a.data.toList = b.data.toList) : a = b := by
  obtain ⟨⟨l⟩⟩ := a
  obtain ⟨⟨m⟩⟩ := b
  simp at h
  subst h
  rfl
theorem ext_list (s : ByteArray) (f k : Nat) (hf : f ≤ k) : (s.extract f k).data.toList = (s.data.toList.drop f).take (k - f) := by
  rw [Lib.extract_data]
theorem idx_none {l : List UInt8} {mk : UInt8} (h : Lib.indexByte l mk < 0) : ∀ c ∈ l, c ≠ mk := fun c hc e => by
  subst e
  have h1 := Lib.indexByte_ge l c
  obtain ⟨k, hk⟩ := List.getElem?_of_mem hc
  exact Lib.indexByte_none (show Lib.indexByte l c = -1 by omega) k hk
theorem idx_cut {l : List UInt8} {mk : UInt8} {m : Nat} (h : Lib.indexByte l mk = m) : m < l.length ∧ l = l.take m ++ mk :: l.drop (m + 1) ∧ ∀ c ∈ l.take m, c ≠ mk := by
  obtain ⟨h1, h2⟩ := Lib.indexByte_some h
  obtain ⟨hk, e⟩ := List.getElem?_eq_some_iff.1 h1
  refine ⟨hk, ?_, fun c hc e2 => ?_⟩
  · have h3 : l[m] :: l.drop (m + 1) = l.drop m := (List.drop_eq_getElem_cons hk).symm
    rw [← e, h3, List.take_append_drop]
  · obtain ⟨k, hk2⟩ := List.getElem?_of_mem hc
    rw [List.getElem?_take] at hk2
    split at hk2
    · rename_i h4
      exact h2 k h4 (by rw [hk2, e2])
    · cases hk2
-- letters of numbers
theorem digits_plain : ∀ (u : Nat), ∀ c ∈ Lib.decDigits u, 48 ≤ c.toNat ∧ c.toNat ≤ 57
  | u => by
    intro c hc
    rw [Lib.decDigits] at hc
    split at hc
    · rename_i h
      obtain rfl := List.mem_singleton.1 hc
      rw [dig_nat h]
      omega
    · rename_i h
      rcases List.mem_append.1 hc with hc | hc
      · exact digits_plain (u / 10) c hc
      · obtain rfl := List.mem_singleton.1 hc
        rw [dig_nat (Nat.mod_lt u (by omega))]
        omega
termination_by u => u
theorem itoa_plain (n : Int) : ∀ c ∈ Lib.itoa n, c.toNat = 45 ∨ 48 ≤ c.toNat ∧ c.toNat ≤ 57 := by
  intro c hc
  unfold Lib.itoa at hc
  split at hc
  · rcases List.mem_cons.1 hc with rfl | hc
    · exact .inl rfl
    · exact .inr (digits_plain _ c hc)
  · exact .inr (digits_plain _ c hc)
theorem itoS_data (n : Int) : (itoS n).data.toList = Lib.itoa n := by simp [itoS]
theorem revDig_dec : ∀ (u : Nat), (revDig u).reverse = Lib.decDigits u
  | u => by
    rw [Lib.decDigits]
    split
    · rename_i h
      rw [revDig_last u (by omega), show u % 10 = u by omega]
      rfl
    · rename_i h
      rw [revDig_step u (by omega), List.reverse_cons, revDig_dec (u / 10)]
termination_by u => u
theorem itoaL_eq (n : Int) : itoaL n = Lib.itoa n := by
  unfold itoaL Lib.itoa
  rw [List.reverse_append, revDig_dec]
  split
  · rfl
  · rw [show n.toNat = n.natAbs by omega]; rfl
-- letters of names
theorem dropW_nil {p : UInt8 → Bool} : ∀ {l : List UInt8}, l.dropWhile p = [] → ∀ x ∈ l, p x = true
  | [], _, x, h => by cases h
  | y :: l, h, x, hx => by
    rw [List.dropWhile_cons] at h
    split at h
    · rename_i hy
      rcases List.mem_cons.1 hx with rfl | hx
      · exact hy
      · exact dropW_nil h x hx
    · cases h
theorem dropW_head {p : UInt8 → Bool} : ∀ {l r : List UInt8} {x : UInt8}, l.dropWhile p = x :: r → p x = false
  | [], r, x, h => by cases h
  | y :: l, r, x, h => by
    rw [List.dropWhile_cons] at h
    split at h
    · exact dropW_head h
    · rename_i hy
      obtain ⟨rfl, _⟩ := List.cons.inj h
      simpa using hy
theorem trimS_nil {l cs : List UInt8} (h : (Lib.trimS l cs).isEmpty = true) : ∀ c ∈ l, c ∈ cs := by
  have h1 : Lib.trimS l cs = [] := List.isEmpty_iff.1 h
  unfold Lib.trimS Lib.trimLeftS Lib.trimRightS at h1
  have h2 : ∀ c ∈ (l.reverse.dropWhile (cs.contains ·)), cs.contains c = true := fun c hc => dropW_nil h1 c (by simpa using hc)
  have h3 : l.reverse.dropWhile (cs.contains ·) = [] := by
    cases hd : l.reverse.dropWhile (cs.contains ·) with
    | nil => rfl
    | cons x r =>
      have h4 := h2 x (by rw [hd]; simp)
      rw [dropW_head hd] at h4
      cases h4
  intro c hc
  have := dropW_nil h3 c (by simpa using hc)
  simpa using this
end Go.Proofs.YtlgidjanmaijaaaGreatDoor

/- A region of quiet operations, of new blocks, and of a tail that waits for them: walked in the order of the text, whatever order is drawn. For any program. -/
namespace Go.Proofs.YtlgidjanmaijaaaGreatDoor
set_option linter.all false
open Go.RowKit

/-- what an operation of a region is: quiet; pure (it may also come behind the tail); a new block; one of the tail -/
inductive Mark where
  | q
  | p
  | a (cs : List Value) (t : TypeId)
  | t
def Mark.isQ : Mark → Bool
  | .q => true
  | .p => true
  | _ => false
def Mark.isA : Mark → Bool
  | .a .. => true
  | _ => false
def Mark.isT : Mark → Bool
  | .t => true
  | _ => false
theorem Mark.trio (m : Mark) : (m.isQ = true ∧ m.isA = false ∧ m.isT = false) ∨ (m.isQ = false ∧ m.isA = true ∧ m.isT = false) ∨ (m.isQ = false ∧ m.isA = false ∧ m.isT = true) := by
  cases m <;> simp [Mark.isQ, Mark.isA, Mark.isT]

/-- i waits for j, straight or through others -/
def deps (ops : Array Oper) : Nat → Nat → Nat → Bool
  | 0, _, _ => false
  | f + 1, i, j => waits ops i j || (List.range ops.size).any fun k => waits ops i k && deps ops f k j
def tailOk (ops : Array Oper) (mk : Nat → Mark) : Bool :=
  fixedOk ops && (List.range ops.size).all fun i =>
    (!(mk i).isA || ((ops[i]?).map (·.guard.isNone)).getD false) &&
    (List.range ops.size).all fun j =>
      if (mk i).isT then (match mk j with
        | .q => deps ops 3 i j
        | .a .. => deps ops 3 i j
        | .t => !decide (j < i) || deps ops 3 i j
        | .p => true)
      else !(waits ops i j && !(mk j).isQ)

section
variable {P : Program} {ops : Array Oper} {mk : Nat → Mark}
theorem deps_closed {L : Nat → Bool} (hcl : ∀ i j, L i = true → waits ops i j = true → L j = true) : ∀ f i j, (∀ k, waits ops i k = true → L k = true) → deps ops f i j = true → L j = true
  | 0, _, _, _, h => by cases h
  | f + 1, i, j, hi, h => by
    unfold deps at h
    rw [Bool.or_eq_true] at h
    rcases h with h | h
    · exact hi j h
    · rw [List.any_eq_true] at h
      obtain ⟨k, _, hk⟩ := h
      rw [Bool.and_eq_true] at hk
      exact deps_closed hcl f k j (fun x hx => hcl k x (hi k hk.1) hx) hk.2

theorem frames_agree2 (hd : dstApart ops = true) (hl : looksOk ops = true) {vs us : Nat → Value} {L M : Nat → Bool} {a0 b0 : Act} (h0 : a0.tmps = b0.tmps) {i : Nat} {o : Oper} (hi : ops[i]? = some o)
    (h1 : ∀ j, j < i → waits ops i j = true → L j = true ∧ M j = true ∧ vs j = us j) (h2 : ∀ j, i < j → waits ops j i = true → L j = false ∧ M j = false)
    {t : Tmp} (ht : t ∈ o.looksAt ops) : (frameOf ops vs L a0 ops.size).tmps[t]? = (frameOf ops us M b0 ops.size).tmps[t]? := by
  have li : i < ops.size := (Array.getElem?_eq_some_iff.1 hi).1
  unfold looksOk at hl
  rw [List.all_eq_true] at hl
  have hli := hl i (by simpa using li)
  rw [hi] at hli
  simp only [Bool.and_eq_true] at hli
  have hlt := hli.2
  rw [List.all_eq_true] at hlt
  have hT := hlt t ht
  rw [List.all_eq_true] at hT
  by_cases hw : ∃ j, j < ops.size ∧ (ops[j]?).bind (·.dst) = some t
  · obtain ⟨j, lj, hj⟩ := hw
    have hJ := hT j (by simpa using lj)
    rw [hj] at hJ
    simp only [bne_self_eq_false, Bool.false_or, Bool.or_eq_true, Bool.and_eq_true, decide_eq_true_eq] at hJ
    rcases hJ with ⟨hji, hwt⟩ | ⟨hij, hwt⟩
    · obtain ⟨a, b, c⟩ := h1 j hji hwt
      rw [frame_at hd hj a _ lj, frame_at hd hj b _ lj, h0, c]
    · obtain ⟨a, b⟩ := h2 j hij hwt
      rw [frame_other _ (fun k _ hk e => by
          by_cases hkj : k = j
          · subst hkj; rw [a] at hk; cases hk
          · exact dst_spec hd (fun e => hkj e.symm) hj e),
        frame_other _ (fun k _ hk e => by
          by_cases hkj : k = j
          · subst hkj; rw [b] at hk; cases hk
          · exact dst_spec hd (fun e => hkj e.symm) hj e), h0]
  · have hno : ∀ k, k < ops.size → (ops[k]?).bind (·.dst) ≠ some t := fun k hk e => hw ⟨k, hk, e⟩
    rw [frame_other _ (fun k hk _ => hno k hk), frame_other _ (fun k hk _ => hno k hk), h0]

theorem frame_defers {vs : Nat → Value} {L : Nat → Bool} {a : Act} {ds : List Deferred} : ∀ n, frameOf ops vs L { a with defers := ds } n = { frameOf ops vs L a n with defers := ds }
  | 0 => rfl
  | n + 1 => by
    unfold frameOf
    rw [frame_defers n]
    split
    · cases (ops[n]?).bind (·.dst) <;> rfl
    · rfl

theorem wp_transfer {o : Oper} {a b : Act} {w : World} {K K' : Act → World → Prop} {QN Q : Exit → Act → World → Prop} (he : execOp b.eval o = execOp a.eval o) (hQ : ∀ e a w, QN e a w → e = .normal)
    (hk : ∀ v w', K (a.put o.dst v) w' → K' (b.put o.dst v) w') (hd : ∀ d w', K ({ a with defers := d :: a.defers }.put o.dst undef) w' → K' ({ b with defers := d :: b.defers }.put o.dst undef) w')
    (h : o.wp P a w K QN) : o.wp P b w K' Q := by
  unfold Oper.wp at *
  rw [he]
  revert h
  generalize (execOp a.eval o).run P w = r
  intro h
  match r, h with
  | .ok (.value v) w', h => exact hk v w' h
  | .ok .skip w', h => exact hk _ w' h
  | .ok (.defer d) w', h => exact hd d w' h
  | .ok (.enter f args) w', h =>
    refine Calls.mono (R := fun | .returned v, w'' => K (a.put o.dst v) w'' | .panicked chain, w'' => QN (.panic chain) a w'' | .outgrown, _ => LetsOut QN) h fun e w'' hx => ?_
    cases e with
    | returned v => exact hk v w'' hx
    | panicked c => cases hQ _ _ _ hx
    | outgrown => obtain ⟨_, _, hx⟩ := hx; cases hQ _ _ _ hx
  | .ok (.row row args) w', h => exact Rows.mono (R := fun v w'' => K (a.put o.dst v) w'') h fun v w'' hx => hk v w'' hx
  | .halt (.panic v) w', h => cases hQ _ _ _ h

theorem all_listed (hl : looksOk ops = true) {listed : Array Bool} (hs : listed.size = ops.size) (hr : Region.ready .any ops listed = []) : ∀ i, i < ops.size → listed.getD i false = true := by
  intro i
  induction i using Nat.strongRecOn with
  | _ i ih =>
    intro hi
    cases hb : listed.getD i false with
    | true => rfl
    | false =>
      have ho : ops[i]? = some ops[i] := Array.getElem?_eq_getElem hi
      have hmem : i ∈ Region.ready .any ops listed := mem_ready.2 ⟨by
        have hli : i < listed.size := by omega
        simpa [Array.getD_eq_getD_getElem?, hli] using hb, _, ho, fun e he hbd => by
          have hl' := hl
          unfold looksOk at hl'
          rw [List.all_eq_true] at hl'
          have h1 := hl' i (by simpa using hi)
          rw [ho] at h1
          simp only [Bool.and_eq_true] at h1
          have h2 := h1.1.2
          have h3 := (Array.all_eq_true_iff_forall_mem.1 h2) e he
          rw [hbd] at h3
          simp at h3
          exact ih e.on h3 (by omega)⟩
      rw [hr] at hmem
      cases hmem
end
end Go.Proofs.YtlgidjanmaijaaaGreatDoor
