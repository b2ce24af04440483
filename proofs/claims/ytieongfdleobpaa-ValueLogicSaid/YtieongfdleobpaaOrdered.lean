/- millpondkeep.ordered: it answers true; the world has at most new blocks. -/
import Derived.Test.YtieongfdleobpaaRight
namespace Go.Proofs.Ytieongfdleobpaa
open Go.RowKit
/-- a value as Go has it -/
structure GV where
  kind : Int
  num : Int
  text : ByteArray

/-- what is a number of 64 bits -/
def i64 (n : Int) : Prop := -9223372036854775808 ≤ n ∧ n ≤ 9223372036854775807

set_option maxHeartbeats 2000000 in
theorem ordered_any (w : World) : Calls Try.prog 7 #[] w fun e w' => e = .returned (.bool true) ∧ Ext w w' := by
  have q1 : cmpV 0 0 ⟨#[]⟩ 1 (-5) ⟨#[]⟩ = -1 := by decide
  have q2 : cmpV 1 9 ⟨#[]⟩ 2 0 ⟨#[]⟩ = -1 := by decide
  have q3 : isV 3 1 1 ⟨#[]⟩ 1 2 ⟨#[]⟩ = 1 := by decide
  have q4 : isV 1 1 1 ⟨#[]⟩ 0 0 ⟨#[]⟩ = -1 := by decide
  have q5 : printS 1 (-5) ⟨#[]⟩ = ⟨#[45, 53]⟩ := by simp [printS, printL, itoaL, revDig]
  go_enter Try.func7, Try.ntmps7
  go_wp2_with (first | (go_at_call 24; refine (num_any _ _).mono ?_; rintro e w1 ⟨rfl, hw1⟩) | (go_at_call 10; refine (compare_any _ _ _ _ _ _ _).mono ?_; rintro e w1 ⟨rfl, hw1⟩) | (go_at_call 11; refine (print_any _ _ _ _ (by decide) (by decide) (by decide)).mono ?_; rintro e w1 ⟨rfl, hw1⟩) | (go_at_call 12; refine (is_any _ _ _ _ _ _ _ _).mono ?_; rintro e w1 ⟨rfl, hw1⟩))
  go_ways
  go_ret
  refine ⟨rfl, ?_⟩
  (repeat (first | exact Ext.refl _ | assumption | refine Ext.drew ?_ | refine Ext.alloc ?_ _ | refine Ext.drewN ?_ _ | refine Ext.trans ?_ (by assumption)))
end Go.Proofs.Ytieongfdleobpaa
