/- value.Print, value.Right: what each call answers; the world has at most new blocks. -/
import Derived.Test.YtieongfdleobpaaItoa
import Derived.Test.YtieongfdleobpaaIs
namespace Go.Proofs.Ytieongfdleobpaa
open Go.RowKit
/-- what value.Print answers -/
def printL (k n : Int) (s : ByteArray) : List UInt8 := if k = 1 then itoaL n else if k = 2 then 39 :: s.data.toList ++ [39] else [110, 117, 108, 108]
def printS (k n : Int) (s : ByteArray) : ByteArray := ⟨(printL k n s).toArray⟩

set_option maxHeartbeats 1000000 in
theorem print_any (k n : Int) (s : ByteArray) (w : World) (h0 : -9223372036854775808 ≤ n) (h1 : n ≤ 9223372036854775807) (hs : s.size ≤ 140737488355328) :
    Calls Try.prog 11 #[.agg #[.int .i64 k, .int .i64 n, .string s]] w fun e w' => e = .returned (.string (printS k n s)) ∧ Ext w w' := by
  by_cases hk : k = 1
  · subst hk
    go_enter Try.func11, Try.ntmps11
    go_wp2_with (go_at_call 29; refine (itoa_any _ _ h0 h1).mono ?_; rintro e w1 ⟨rfl, hw1⟩)
    go_ret
    refine ⟨rfl, ?_⟩
    (repeat (first | exact Ext.refl _ | assumption | refine Ext.drew ?_ | refine Ext.alloc ?_ _ | refine Ext.drewN ?_ _ | refine Ext.trans ?_ (by assumption)))
  · have b1 : (k == 1) = false := by simp [hk]
    by_cases hk2 : k = 2
    · subst hk2
      clear hk b1
      go_enter Try.func11, Try.ntmps11
      go_wp2_with fail
      go_ret
      refine ⟨?_, ?_⟩
      · refine congrArg (fun z => Ending.returned (Value.string z)) (?_ : _ = printS 2 n s)
        apply ByteArray.ext
        apply Array.toList_inj.1
        simp [printS, printL, ByteArray.data_append]
      · (repeat (first | exact Ext.refl _ | assumption | refine Ext.drew ?_ | refine Ext.alloc ?_ _ | refine Ext.drewN ?_ _ | refine Ext.trans ?_ (by assumption)))
    · have b2 : (k == 2) = false := by simp [hk2]
      have fin : printS k n s = ⟨#[110, 117, 108, 108]⟩ := by simp [printS, printL, hk, hk2]
      rw [fin]
      clear hk hk2 fin
      go_enter Try.func11, Try.ntmps11
      go_wp2_with fail
      go_ret
      refine ⟨rfl, ?_⟩
      (repeat (first | exact Ext.refl _ | assumption | refine Ext.drew ?_ | refine Ext.alloc ?_ _ | refine Ext.drewN ?_ _ | refine Ext.trans ?_ (by assumption)))
end Go.Proofs.Ytieongfdleobpaa
