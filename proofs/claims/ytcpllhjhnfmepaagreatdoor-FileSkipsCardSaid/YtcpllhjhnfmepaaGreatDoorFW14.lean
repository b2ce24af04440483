/- schema.More. -/
import Derived.Test.YtcpllhjhnfmepaaGreatDoorFW11
import Derived.Test.YtcpllhjhnfmepaaGreatDoorFW04
namespace Go.Proofs.YtcpllhjhnfmepaaGreatDoor
set_option linter.all false
set_option linter.unusedSimpArgs false
set_option linter.unusedVariables false
open Go.RowKit
/-- what More hands back -/
def MRes (w : World) (err : Int) (m : List CG) (next : Int) (e : Ending) (w' : World) : Prop :=
  if err = 0 then ∃ A' cap', e = .returned (.tuple #[.slice A' m.length cap', .int .i64 (next + 1), .nilIface]) ∧ Hp w.heap.size w w' [cRow A' cap' m] else e = .returned (.tuple #[.slice none 0 0, .int .i64 0, .iface 86 (.int .i64 err)]) ∧ Ext w w'
theorem MRes.bad {w : World} {err : Int} {m : List CG} {next : Int} {e : Ending} {w' : World} (he : err ≠ 0) (h : e = .returned (.tuple #[.slice none 0 0, .int .i64 0, .iface 86 (.int .i64 err)])) (hx : Ext w w') : MRes w err m next e w' := by
  unfold MRes; rw [if_neg he]; exact ⟨h, hx⟩
theorem MRes.good {w : World} {m : List CG} {next : Int} {e : Ending} {w' : World} {A' : Option Addr} {cap' : Nat} (h : e = .returned (.tuple #[.slice A' m.length cap', .int .i64 (next + 1), .nilIface])) (hS : Hp w.heap.size w w' [cRow A' cap' m]) : MRes w 0 m next e w' := by
  unfold MRes; rw [if_pos rfl]; exact ⟨A', cap', h, hS⟩
end Go.Proofs.YtcpllhjhnfmepaaGreatDoor
