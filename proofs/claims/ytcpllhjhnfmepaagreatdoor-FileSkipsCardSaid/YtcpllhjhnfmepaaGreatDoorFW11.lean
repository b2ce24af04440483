/- Texts joined: schema.Less. schema.Rename. -/
import Derived.Test.YtcpllhjhnfmepaaGreatDoorFW10
/- schema.Less. -/
namespace Go.Proofs.YtcpllhjhnfmepaaGreatDoor
set_option linter.all false
set_option linter.unusedSimpArgs false
set_option linter.unusedVariables false
open Go.RowKit
theorem idxC_range (p : CG → Bool) : ∀ (l : List CG) (k : Nat), -1 ≤ idxC p k l ∧ idxC p k l < k + l.length
  | [], k => by simp [idxC]; omega
  | x :: l, k => by
    unfold idxC
    have := idxC_range p l (k + 1)
    split <;> simp <;> omega
/-- what changes columns hands back -/
def CRes (w : World) (err : Int) (m : List CG) (e : Ending) (w' : World) : Prop :=
  if err = 0 then ∃ A' cap', e = .returned (.tuple #[.slice A' m.length cap', .nilIface]) ∧ Hp w.heap.size w w' [cRow A' cap' m] else e = .returned (.tuple #[.slice none 0 0, .iface 86 (.int .i64 err)]) ∧ Ext w w'
theorem CRes.bad {w : World} {err : Int} {m : List CG} {e : Ending} {w' : World} (he : err ≠ 0) (h : e = .returned (.tuple #[.slice none 0 0, .iface 86 (.int .i64 err)])) (hx : Ext w w') : CRes w err m e w' := by
  unfold CRes; rw [if_neg he]; exact ⟨h, hx⟩
theorem CRes.good {w : World} {m : List CG} {e : Ending} {w' : World} {A' : Option Addr} {cap' : Nat} (h : e = .returned (.tuple #[.slice A' m.length cap', .nilIface])) (hS : Hp w.heap.size w w' [cRow A' cap' m]) : CRes w 0 m e w' := by
  unfold CRes; rw [if_pos rfl]; exact ⟨A', cap', h, hS⟩
end Go.Proofs.YtcpllhjhnfmepaaGreatDoor

/- schema.Rename. -/
namespace Go.Proofs.YtcpllhjhnfmepaaGreatDoor
set_option linter.all false
set_option linter.unusedSimpArgs false
set_option linter.unusedVariables false
open Go.RowKit
end Go.Proofs.YtcpllhjhnfmepaaGreatDoor
