/- schema.More. -/
import Derived.Test.YtcpllhjhnfmepaaGreatDoorFX10
import Derived.Test.YtcpllhjhnfmepaaGreatDoorFX03
namespace Go.Proofs.YtcpllhjhnfmepaaGreatDoor
set_option linter.all false
set_option linter.unusedSimpArgs false
set_option linter.unusedVariables false
open Go.RowKit
def morC (c : CG) (next : Int) : CG := { c with id := next }
def morE (l : List CG) (next : Int) (c : CG) : Int := if 0 ≤ idxC (nmEq c.name) 0 l then 9 else if 8 ≤ l.length then 12 else if (!colB (morC c next) || (c.must && c.d.kind == 0)) = true then 1 else 0
/-- what More hands back -/
def MRes (w : World) (err : Int) (m : List CG) (next : Int) (e : Ending) (w' : World) : Prop :=
  if err = 0 then ∃ A' cap', e = .returned (.tuple #[.slice A' m.length cap', .int .i64 (next + 1), .nilIface]) ∧ Hp w.heap.size w w' [cRow A' cap' m] else e = .returned (.tuple #[.slice none 0 0, .int .i64 0, .iface 86 (.int .i64 err)]) ∧ Ext w w'
theorem MRes.bad {w : World} {err : Int} {m : List CG} {next : Int} {e : Ending} {w' : World} (he : err ≠ 0) (h : e = .returned (.tuple #[.slice none 0 0, .int .i64 0, .iface 86 (.int .i64 err)])) (hx : Ext w w') : MRes w err m next e w' := by
  unfold MRes; rw [if_neg he]; exact ⟨h, hx⟩
theorem MRes.good {w : World} {m : List CG} {next : Int} {e : Ending} {w' : World} {A' : Option Addr} {cap' : Nat} (h : e = .returned (.tuple #[.slice A' m.length cap', .int .i64 (next + 1), .nilIface])) (hS : Hp w.heap.size w w' [cRow A' cap' m]) : MRes w 0 m next e w' := by
  unfold MRes; rw [if_pos rfl]; exact ⟨A', cap', h, hS⟩
theorem cRow_push {B : Nat} {w0 w : World} {L : List Item} {A : Option Addr} {cap n : Nat} {l : List CG} {c : CG} (hn : n = l.length) (h : Hp B w0 w (.row 47 7 A (n + 1) cap (cellsC l ++ [.int .i64 c.id, .string c.name, .int .i64 c.kind, .bool c.must, .int .i64 c.d.kind, .int .i64 c.d.num, .string c.d.text]) :: L)) : Hp B w0 w (cRow A cap (l ++ [c]) :: L) := by
  unfold cRow
  rw [cellsC_append, List.length_append, ← hn]
  exact h
end Go.Proofs.YtcpllhjhnfmepaaGreatDoor
