/- slices.SortStableFunc at rows: rotate, insertionSort. -/
import Derived.Test.YtlaldfkeaalnhaaGreatDoorQA11
import Derived.Test.YtlaldfkeaalnhaaGreatDoorQA13
namespace Go.Proofs.YtlaldfkeaalnhaaGreatDoor
set_option linter.unusedSimpArgs false
set_option linter.unusedVariables false
open Go.RowKit
set_option linter.all false
set_option maxRecDepth 100000 in
set_option maxHeartbeats 8000000 in
theorem rotate_any {B : Nat} {w0 w : World} {L : List Item} {g n cap : Nat} (xs : List Mx) (a m b : Nat) (fv : Value) (hn : xs.length = n) (hn2 : n ≤ 1000) (hc : n ≤ cap) (ha : a < m) (hm : m < b) (hb : b ≤ n) (hS : Hp B w0 w (rowsI g n cap xs :: L)) :
    Calls Tryz.prog 148 #[.slice (some ⟨g, 0, none⟩) n cap, .int .i64 a, .int .i64 m, .int .i64 b, fv] w fun e w' => e = .returned (.tuple #[]) ∧ Hp B w0 w' (rowsI g n cap (rotL mx0 (b + 1) xs m (m - a) (b - m)) :: L) := by
  obtain ⟨R, hR0⟩ : ∃ R, R = rotL mx0 (b + 1) xs m (m - a) (b - m) := ⟨_, rfl⟩
  rw [← hR0]
  have HSW := Lib.hid (fun (ys : List Mx) (hy : ys.length = n) (p q k : Nat) (h1 : p + k ≤ q) (h2 : q + k ≤ n) (W : World) (h : Hp B w0 W (rowsI g n cap ys :: L)) => swapRange_any ys p q k fv hy hn2 hc h1 h2 h)
  have HN := Lib.hid hn
  have HR0 := Lib.hid hR0.symm
  have hw1 : IntKind.i64.wrap ((m : Int) - (a : Int)) = ((m - a : Nat) : Int) := by rw [IntWalk.i64_in _ (by omega)]; omega
  have hw2 : IntKind.i64.wrap ((b : Int) - (m : Int)) = ((b - m : Nat) : Int) := by rw [IntWalk.i64_in _ (by omega)]; omega
  have hi0 : 1 ≤ m - a := by omega
  have hj0 : 1 ≤ b - m := by omega
  clear hR0 hn
  have hF : True := trivial
  have hR := Reads.nil w
  go_enter Tryz.func148, Tryz.ntmps148
  go_wp2
  obtain ⟨i0, hi0e⟩ : ∃ x, x = m - a := ⟨_, rfl⟩
  obtain ⟨j0, hj0e⟩ : ∃ x, x = b - m := ⟨_, rfl⟩
  rw [← hi0e, ← hj0e] at HR0
  rw [← hi0e, ← hj0e]
  rw [← hi0e] at hi0
  rw [← hj0e] at hj0
  have hij : i0 + j0 < b + 1 := by omega
  have him : i0 ≤ m := by omega
  have hjn : m + j0 ≤ n := by omega
  clear hi0e hj0e hw1 hw2 ha hm
  go_loopw [10, 11] (fun s10 s11 wr => ∃ (i j f : Nat) (ys : List Mx), s10 = .int .i64 i ∧ s11 = .int .i64 j ∧ 1 ≤ i ∧ 1 ≤ j ∧ i ≤ m ∧ m + j ≤ n ∧ Hid (i + j < f) ∧ Hid (ys.length = n) ∧ Hid (rotL mx0 f ys m i j = R) ∧ Hp B w0 wr (rowsI g n cap ys :: L)) (fun s10 s11 _ => (intOf s10).toNat + (intOf s11).toNat)
  case atStart => exact ⟨i0, j0, b + 1, xs, rfl, rfl, hi0, hj0, him, hjn, Lib.hid hij, HN, HR0, hS⟩
  case round =>
    clear hS hi0 hj0 him hjn hij HR0 HN
    obtain ⟨i, j, f, ys, rfl, rfl, hi, hj, him, hjn, HFU, HYL, HRR, hS⟩ := hrel
    obtain ⟨f2, rfl⟩ : ∃ f2, f = f2 + 1 := ⟨f - 1, by have := HFU.out; omega⟩
    have hRR := HRR.out
    rw [rotL] at hRR
    by_cases hij : i = j
    · subst hij
      rw [if_pos rfl] at hRR
      have hw3 : IntKind.i64.wrap ((m : Int) - (i : Int)) = ((m - i : Nat) : Int) := by rw [IntWalk.i64_in _ (by omega)]; omega
      have HS1 := Lib.hid (fun (W : World) (h : Hp B w0 W (rowsI g n cap ys :: L)) => HSW.out ys HYL.out (m - i) m i (by omega) (by omega) W h)
      have HR2 := Lib.hid hRR
      clear hRR HRR HFU
      go_wp2_with (go_at_call 165; (with_reducible refine Calls.mono (HS1.out _ hS) ?_); clear hS; rintro e wk ⟨rfl, hS⟩)
      go_end0
      rw [HR2.out] at hS
      exact ⟨rfl, hS⟩
    · rw [if_neg hij] at hRR
      have hnb : ((i : Int) != (j : Int)) = true := by simp; omega
      by_cases hlt : j < i
      · rw [if_pos hlt] at hRR
        have hlt' : (j : Int) < (i : Int) := by omega
        have hd : decide ((j : Int) < (i : Int)) = true := decide_eq_true hlt'
        have hw3 : IntKind.i64.wrap ((m : Int) - (i : Int)) = ((m - i : Nat) : Int) := by rw [IntWalk.i64_in _ (by omega)]; omega
        have hw4 : IntKind.i64.wrap ((i : Int) - (j : Int)) = ((i - j : Nat) : Int) := by rw [IntWalk.i64_in _ (by omega)]; omega
        have HS1 := Lib.hid (fun (W : World) (h : Hp B w0 W (rowsI g n cap ys :: L)) => HSW.out ys HYL.out (m - i) m j (by omega) (by omega) W h)
        have HL2 := Lib.hid (show (swR mx0 ys (m - i) m j).length = n by rw [swR_len, HYL.out])
        have HR2 := Lib.hid hRR
        have HF2 := Lib.hid (show (i - j) + j < f2 by have := HFU.out; omega)
        clear hRR HRR HFU hij
        go_wp2_with (go_at_call 165; (with_reducible refine Calls.mono (HS1.out _ hS) ?_); clear hS; rintro e wk ⟨rfl, hS⟩)
        go_roundw
        case rel => exact ⟨i - j, j, f2, _, rfl, rfl, by omega, hj, by omega, hjn, HF2, HL2, HR2, hS⟩
        case measure => simp [intOf]; omega
      · rw [if_neg hlt] at hRR
        have hlt' : ¬ (j : Int) < (i : Int) := by omega
        have hd : decide ((j : Int) < (i : Int)) = false := decide_eq_false hlt'
        have hw3 : IntKind.i64.wrap ((m : Int) - (i : Int)) = ((m - i : Nat) : Int) := by rw [IntWalk.i64_in _ (by omega)]; omega
        have hw4 : IntKind.i64.wrap ((j : Int) - (i : Int)) = ((j - i : Nat) : Int) := by rw [IntWalk.i64_in _ (by omega)]; omega
        have hw5 : IntKind.i64.wrap ((m : Int) + (j : Int)) = (m : Int) + (j : Int) := IntWalk.i64_in _ (by omega)
        have hw6 : IntKind.i64.wrap ((m : Int) + (j : Int) - (i : Int)) = ((m + j - i : Nat) : Int) := by rw [IntWalk.i64_in _ (by omega)]; omega
        have HS1 := Lib.hid (fun (W : World) (h : Hp B w0 W (rowsI g n cap ys :: L)) => HSW.out ys HYL.out (m - i) (m + j - i) i (by omega) (by omega) W h)
        have HL2 := Lib.hid (show (swR mx0 ys (m - i) (m + j - i) i).length = n by rw [swR_len, HYL.out])
        have HR2 := Lib.hid hRR
        have HF2 := Lib.hid (show i + (j - i) < f2 by have := HFU.out; omega)
        clear hRR HRR HFU
        go_wp2_with (go_at_call 165; (with_reducible refine Calls.mono (HS1.out _ hS) ?_); clear hS; rintro e wk ⟨rfl, hS⟩)
        go_roundw
        case rel => exact ⟨i, j - i, f2, _, rfl, rfl, hi, by omega, him, by omega, HF2, HL2, HR2, hS⟩
        case measure => simp [intOf]; omega
end Go.Proofs.YtlaldfkeaalnhaaGreatDoor
