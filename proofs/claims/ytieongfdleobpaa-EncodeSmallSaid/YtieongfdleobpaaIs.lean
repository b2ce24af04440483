/- value.Is and value.num: what each call answers; the world has at most new blocks. -/
import Derived.Test.YtieongfdleobpaaCmp
namespace Go.Proofs.Ytieongfdleobpaa
set_option linter.unusedSimpArgs false
set_option linter.unusedVariables false
open Go.RowKit
/-- what value.Is answers -/
def isCode (c n : Int) : Int := if (c = 1 ∧ n = 0) ∨ (c = 2 ∧ n ≠ 0) ∨ (c = 3 ∧ n < 0) ∨ (c = 4 ∧ n ≤ 0) ∨ (c = 5 ∧ 0 < n) ∨ (c = 6 ∧ 0 ≤ n) then 1 else 0
def isV (c : Int) (k n : Int) (s : ByteArray) (k' n' : Int) (s' : ByteArray) : Int := if k = 0 ∨ k ≠ k' then -1 else isCode c (cmpV k n s k' n' s')

set_option maxHeartbeats 1000000 in
theorem num_any (n : Int) (w : World) :
    Calls Try.prog 24 #[.int .i64 n] w fun e w' => e = .returned (.agg #[.int .i64 1, .int .i64 n, .string ⟨#[]⟩]) ∧ Ext w w' := by
  go_enter Try.func24, Try.ntmps24
  go_wp2
  refine bodyPost_ret (v := .agg #[.int .i64 1, .int .i64 n, .string ⟨#[]⟩]) (by simp [results, Try.results24, go_sem]) rfl ⟨rfl, ?_⟩
  (repeat (first | with_reducible exact Ext.refl _ | with_reducible assumption | with_reducible refine Ext.drew ?_ | with_reducible refine Ext.alloc ?_ _ | with_reducible refine Ext.drewN ?_ _ | refine Ext.trans ?_ (by with_reducible assumption)))

set_option maxHeartbeats 1000000 in
theorem is_none (c k n : Int) (s : ByteArray) (k' n' : Int) (s' : ByteArray) (w : World) (h : k = 0 ∨ k ≠ k') :
    Calls Try.prog 12 #[.int .i64 c, .agg #[.int .i64 k, .int .i64 n, .string s], .agg #[.int .i64 k', .int .i64 n', .string s']] w fun e w' => e = .returned (.int .i64 (-1)) ∧ Ext w w' := by
  by_cases hk : k = 0
  · have b1 : (k == 0) = true := by simp [hk]
    clear h hk
    go_enter Try.func12, Try.ntmps12
    go_wp2
    go_ret
    refine ⟨rfl, ?_⟩
    (repeat (first | with_reducible exact Ext.refl _ | with_reducible assumption | with_reducible refine Ext.drew ?_ | with_reducible refine Ext.alloc ?_ _ | with_reducible refine Ext.drewN ?_ _ | refine Ext.trans ?_ (by with_reducible assumption)))
  · have b1 : (k == 0) = false := by simp [hk]
    have hk' : k ≠ k' := by rcases h with h | h; exact absurd h hk; exact h
    have b2 : (k == k') = false := by simp [hk']
    have b3 : (k != k') = true := by simp [hk']
    clear h hk hk'
    go_enter Try.func12, Try.ntmps12
    go_wp2
    go_ret
    refine ⟨rfl, ?_⟩
    (repeat (first | with_reducible exact Ext.refl _ | with_reducible assumption | with_reducible refine Ext.drew ?_ | with_reducible refine Ext.alloc ?_ _ | with_reducible refine Ext.drewN ?_ _ | refine Ext.trans ?_ (by with_reducible assumption)))

set_option maxHeartbeats 2000000 in
theorem is_some (c k n : Int) (s : ByteArray) (n' : Int) (s' : ByteArray) (w : World) (hk : k ≠ 0) :
    Calls Try.prog 12 #[.int .i64 c, .agg #[.int .i64 k, .int .i64 n, .string s], .agg #[.int .i64 k, .int .i64 n', .string s']] w fun e w' => e = .returned (.int .i64 (isCode c (cmpV k n s k n' s'))) ∧ Ext w w' := by
  have b1 : (k == 0) = false := by simp [hk]
  clear hk
  go_enter Try.func12, Try.ntmps12
  go_wp2_with (go_at_call 10; refine (compare_any _ _ _ _ _ _ _).mono ?_; rintro e w1 ⟨rfl, hw1⟩)
  all_goals (go_ret; refine ⟨?_, ?_⟩; rotate_left; (repeat (first | with_reducible exact Ext.refl _ | with_reducible assumption | with_reducible refine Ext.drew ?_ | with_reducible refine Ext.alloc ?_ _ | with_reducible refine Ext.drewN ?_ _ | refine Ext.trans ?_ (by with_reducible assumption))))
  all_goals (clear hw1; (simp_all [isCode] <;> omega))
theorem is_any (c k n : Int) (s : ByteArray) (k' n' : Int) (s' : ByteArray) (w : World) :
    Calls Try.prog 12 #[.int .i64 c, .agg #[.int .i64 k, .int .i64 n, .string s], .agg #[.int .i64 k', .int .i64 n', .string s']] w fun e w' => e = .returned (.int .i64 (isV c k n s k' n' s')) ∧ Ext w w' := by
  by_cases h : k = 0 ∨ k ≠ k'
  · rw [show isV c k n s k' n' s' = -1 by simp only [isV, if_pos h]]
    exact is_none c k n s k' n' s' w h
  · obtain ⟨h1, h2⟩ := not_or.1 h
    obtain rfl : k = k' := Decidable.not_not.1 h2
    rw [show isV c k n s k n' s' = isCode c (cmpV k n s k n' s') by simp only [isV, if_neg h]]
    exact is_some c k n s n' s' w h1
end Go.Proofs.Ytieongfdleobpaa
