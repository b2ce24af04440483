/- The order of values: cmp.Compare, cmp.Or, value.Compare: what each call answers; the world has at most new blocks. -/
import Derived.Test.YtieongfdleobpaaProg
import Derived.Test.YtieongfdleobpaaBase
import Derived.Test.YtieongfdleobpaaLib
namespace Go.Proofs.Ytieongfdleobpaa
set_option linter.unusedSimpArgs false
set_option linter.unusedVariables false
open Go.RowKit
def cmpI (x y : Int) : Int := if x < y then -1 else if y < x then 1 else 0
/-- cmp.Or of three numbers -/
def orI (x y z : Int) : Int := if x = 0 then (if y = 0 then z else y) else x

theorem cmp_int (x y : Int) (w : World) :
    Calls Try.prog 26 #[.int .i64 x, .int .i64 y] w fun e w' => e = .returned (.int .i64 (cmpI x y)) ∧ w' = w := by
  unfold cmpI
  by_cases h1 : x < y
  · go_enter Try.func26, Try.ntmps26
    go_wp2
    go_ret
    exact ⟨by simp [h1], rfl⟩
  · by_cases h2 : y < x
    · go_enter Try.func26, Try.ntmps26
      go_wp2
      go_ret
      exact ⟨by simp [h1, h2], rfl⟩
    · go_enter Try.func26, Try.ntmps26
      go_wp2
      go_ret
      exact ⟨by simp [h1, h2], rfl⟩
theorem cmp_int64 (x y : Int) (w : World) :
    Calls Try.prog 27 #[.int .i64 x, .int .i64 y] w fun e w' => e = .returned (.int .i64 (cmpI x y)) ∧ w' = w := by
  unfold cmpI
  by_cases h1 : x < y
  · go_enter Try.func27, Try.ntmps27
    go_wp2
    go_ret
    exact ⟨by simp [h1], rfl⟩
  · by_cases h2 : y < x
    · go_enter Try.func27, Try.ntmps27
      go_wp2
      go_ret
      exact ⟨by simp [h1, h2], rfl⟩
    · go_enter Try.func27, Try.ntmps27
      go_wp2
      go_ret
      exact ⟨by simp [h1, h2], rfl⟩

set_option maxHeartbeats 400000 in
theorem or_int (x y z : Int) (g : Nat) (w : World) (h0 : w.cell? ⟨g, 0, none⟩ = some (.int .i64 x)) (h1 : w.cell? ⟨g, 1, none⟩ = some (.int .i64 y)) (h2 : w.cell? ⟨g, 2, none⟩ = some (.int .i64 z)) :
    Calls Try.prog 25 #[.slice (some ⟨g, 0, none⟩) 3 3] w fun e w' => e = .returned (.int .i64 (orI x y z)) ∧ w' = w := by
  by_cases hx : x = 0
  · have bx : (x == 0) = true := by simp [hx]
    have cx : (x != 0) = false := by simp [hx]
    by_cases hy : y = 0
    · have by' : (y == 0) = true := by simp [hy]
      have cy : (y != 0) = false := by simp [hy]
      have fin : orI x y z = z := by simp [orI, hx, hy]
      rw [fin]; clear hx hy fin
      by_cases hz : z = 0
      · have bz : (z == 0) = true := by simp [hz]
        have cz : (z != 0) = false := by simp [hz]
        subst hz
        go_enter Try.func25, Try.ntmps25
        go_wp2
        refine wp_loop_rounds 4 ?_
        rw [rounds_succ]; go_wp2
        rw [rounds_succ]; go_wp2
        rw [rounds_succ]; go_wp2
        rw [rounds_succ]; go_wp2
        go_ret
        exact ⟨rfl, rfl⟩
      · have bz : (z == 0) = false := by simp [hz]
        have cz : (z != 0) = true := by simp [hz]
        clear hz
        go_enter Try.func25, Try.ntmps25
        go_wp2
        refine wp_loop_rounds 4 ?_
        rw [rounds_succ]; go_wp2
        rw [rounds_succ]; go_wp2
        rw [rounds_succ]; go_wp2
        go_ret
        exact ⟨rfl, rfl⟩
    · have by' : (y == 0) = false := by simp [hy]
      have cy : (y != 0) = true := by simp [hy]
      have fin : orI x y z = y := by simp [orI, hx, hy]
      rw [fin]; clear hx hy fin
      go_enter Try.func25, Try.ntmps25
      go_wp2
      refine wp_loop_rounds 4 ?_
      rw [rounds_succ]; go_wp2
      rw [rounds_succ]; go_wp2
      go_ret
      exact ⟨rfl, rfl⟩
  · have bx : (x == 0) = false := by simp [hx]
    have cx : (x != 0) = true := by simp [hx]
    have fin : orI x y z = x := by simp [orI, hx]
    rw [fin]; clear hx fin
    go_enter Try.func25, Try.ntmps25
    go_wp2
    refine wp_loop_rounds 4 ?_
    rw [rounds_succ]; go_wp2
    go_ret
    exact ⟨rfl, rfl⟩

/-- what value.Compare answers -/
def cmpV (k n : Int) (s : ByteArray) (k' n' : Int) (s' : ByteArray) : Int := orI (cmpI k k') (cmpI n n') (Lib.compareBytes s.data.toList s'.data.toList)

set_option maxHeartbeats 1000000 in
theorem compare_any (k n : Int) (s : ByteArray) (k' n' : Int) (s' : ByteArray) (w : World) :
    Calls Try.prog 10 #[.agg #[.int .i64 k, .int .i64 n, .string s], .agg #[.int .i64 k', .int .i64 n', .string s']] w fun e w' => e = .returned (.int .i64 (cmpV k n s k' n' s')) ∧ Ext w w' := by
  go_enter Try.func10, Try.ntmps10
  go_wp2_with fail
  go_region_held3 (fun w' => w'.cell? ⟨w.heap.size, 0, none⟩ = some (.int .i64 k) ∧ w'.cell? ⟨w.heap.size, 1, none⟩ = some (.int .i64 n) ∧ w'.cell? ⟨w.heap.size, 2, none⟩ = some (.string s) ∧ w'.cell? ⟨w.heap.size+1, 0, none⟩ = some (.int .i64 k') ∧ w'.cell? ⟨w.heap.size+1, 1, none⟩ = some (.int .i64 n') ∧ w'.cell? ⟨w.heap.size+1, 2, none⟩ = some (.string s') ∧ Ext w w') (((try dsimp only); (repeat' apply And.intro) <;> (first | (go_keep; done) | (repeat (first | with_reducible exact Ext.refl _ | with_reducible assumption | with_reducible refine Ext.drew ?_ | with_reducible refine Ext.alloc ?_ _ | with_reducible refine Ext.drewN ?_ _ | refine Ext.trans ?_ (by with_reducible assumption)))))) (first | (go_at_call 26; refine (cmp_int _ _ _).mono ?_; rintro e w' ⟨rfl, rfl⟩) | (go_at_call 27; refine (cmp_int64 _ _ _).mono ?_; rintro e w' ⟨rfl, rfl⟩) | (go_at_call 28; refine (Try.strings_Compare _ _ _).mono ?_; rintro e w' ⟨rfl, rfl⟩) | (go_at_call 25; refine (or_int (cmpI k k') (cmpI n n') (Lib.compareBytes s.data.toList s'.data.toList) _ _ (by go_simp) (by go_simp) (by go_simp)).mono ?_; rintro e w' ⟨rfl, rfl⟩))
  go_wp2
  go_ret
  refine ⟨rfl, ?_⟩
  (repeat (first | with_reducible exact Ext.refl _ | with_reducible assumption | with_reducible refine Ext.drew ?_ | with_reducible refine Ext.alloc ?_ _ | with_reducible refine Ext.drewN ?_ _ | refine Ext.trans ?_ (by with_reducible assumption)))
end Go.Proofs.Ytieongfdleobpaa
