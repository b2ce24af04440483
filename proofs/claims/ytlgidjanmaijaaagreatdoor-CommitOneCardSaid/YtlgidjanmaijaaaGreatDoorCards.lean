/-
  DERIVED. GIVEN WITH THE SEED: THE CARDS: each row of YtlgidjanmaijaaaGreatDoorRows.lean that lists a variable, with what it lists TIED to the program's text (the seventh form; the later family's looks); each row that meets fmt, with fmt's text TOLD by the authors' own Lean function (tested against real Go, not proved from fmt's source: count such statements apart). THE CARD IS WHAT COUNTS. Prove the row's statement (the work); the ties are given (YtlgidjanmaijaaaGreatDoorTie.lean); close each card by the builder's one call (the guide's Derived/Test/ToyasCard.lean, 'card_holds'). Laid BY PROGRAM, IN A SANDBOX (cutbox-door.mjs). By AI agents, Wed Nov 11 2026. No macro, syntax, notation, axiom, sorry.
-/
import Derived.Test.YtlgidjanmaijaaaGreatDoorRows
import GoSem.ClaimSeven
namespace Go.Proofs.YtlgidjanmaijaaaGreatDoor
namespace Rows

/-- THE TIED CARD OF 'millpondkeep.CommitOne'. -/
def commitOneCard : Claim7 := { stood := { row := commitOneRow, standIns := [], harness := (true, "f9a86ce41179e98a90628a46c2eff7e6f01a4d62fbf59e54a47cce85307a83d9"), looks := true }, kinds := [], alts := [], laidByText := true, laidKinds := [.data, .data, .data, .data, .handle, .sentinel, .sentinel, .widerDeep, .pinned], laidTests := true, laidLooks := .later }
def CommitOneCardSaid : Prop := Claim7.holds Tryz.pinned (.plain (OpenSpec.ofChange commitOneSpec)) commitOneCard

/-- THE SECOND FORM's CARD OF 'millpondkeep.CommitOne'. -/
def commitOneUptoCard : Claim7 := { stood := { row := commitOneUptoRow, standIns := [], harness := (true, "f9a86ce41179e98a90628a46c2eff7e6f01a4d62fbf59e54a47cce85307a83d9"), looks := true }, kinds := [], alts := [], laidByText := true, laidKinds := [.data, .data, .data, .data, .handle, .sentinel, .sentinel, .widerDeep, .pinned], laidTests := true, laidLooks := .later }
def CommitOneUptoCardSaid : Prop := Claim7.holds Tryz.pinned (.plain (OpenSpec.upto commitOneSpec)) commitOneUptoCard
end Rows
end Go.Proofs.YtlgidjanmaijaaaGreatDoor
