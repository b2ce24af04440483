/-
  DERIVED. GIVEN WITH THE SEED: THE CARDS: each row of YtcpnnffnkegamaaGreatDoorRows.lean that lists a variable, with what it lists TIED to the program's text (the seventh form; the later family's looks); each row that meets fmt, with fmt's text TOLD by the authors' own Lean function (tested against real Go, not proved from fmt's source: count such statements apart). THE CARD IS WHAT COUNTS. Prove the row's statement (the work); the ties are given (YtcpnnffnkegamaaGreatDoorTie.lean); close each card by the builder's one call (the guide's Derived/Test/ToyasCard.lean, 'card_holds'). Laid BY PROGRAM, IN A SANDBOX (cutbox-door.mjs). By AI agents, Wed Nov 11 2026. No macro, syntax, notation, axiom, sorry.
-/
import Derived.Test.YtcpnnffnkegamaaGreatDoorRows
import GoSem.ClaimSeven
namespace Go.Proofs.YtcpnnffnkegamaaGreatDoor
namespace Rows

/-- THE TIED CARD OF 'millpondkeep.LogWhole'. -/
def logWholeCard : Claim7 := { stood := { row := logWholeRow, standIns := [], harness := (true, "b7a6d015ea04570ada96c2015a095da4f7834d4cd410c72e9ad93b3eaad22b35"), looks := true }, kinds := [], alts := [], laidByText := true, laidKinds := [.data, .data, .data, .data, .widerDeep, .pinned], laidTests := true, laidLooks := .later }
def LogWholeCardSaid : Prop := Claim7.holds Tryz.pinned (.plain (OpenSpec.ofChange logWholeSpec)) logWholeCard

/-- THE TIED CARD OF 'millpondkeep.LogCommutes'. -/
def logCommutesCard : Claim7 := { stood := { row := logCommutesRow, standIns := [], harness := (true, "b7a6d015ea04570ada96c2015a095da4f7834d4cd410c72e9ad93b3eaad22b35"), looks := true }, kinds := [], alts := [], laidByText := true, laidKinds := [.data, .data, .data, .data, .widerDeep, .pinned], laidTests := true, laidLooks := .later }
def LogCommutesCardSaid : Prop := Claim7.holds Tryz.pinned (.plain (OpenSpec.ofChange logCommutesSpec)) logCommutesCard

/-- THE TIED CARD OF 'millpondkeep.LogBack'. -/
def logBackCard : Claim7 := { stood := { row := logBackRow, standIns := [], harness := (true, "b7a6d015ea04570ada96c2015a095da4f7834d4cd410c72e9ad93b3eaad22b35"), looks := true }, kinds := [], alts := [], laidByText := true, laidKinds := [.data, .data, .data, .data, .sentinel, .sentinel, .widerDeep, .pinned], laidTests := true, laidLooks := .later }
def LogBackCardSaid : Prop := Claim7.holds Tryz.pinned (.plain (OpenSpec.ofChange logBackSpec)) logBackCard

/-- THE SECOND FORM's CARD OF 'millpondkeep.LogWhole'. -/
def logWholeUptoCard : Claim7 := { stood := { row := logWholeUptoRow, standIns := [], harness := (true, "b7a6d015ea04570ada96c2015a095da4f7834d4cd410c72e9ad93b3eaad22b35"), looks := true }, kinds := [], alts := [], laidByText := true, laidKinds := [.data, .data, .data, .data, .widerDeep, .pinned], laidTests := true, laidLooks := .later }
def LogWholeUptoCardSaid : Prop := Claim7.holds Tryz.pinned (.plain (OpenSpec.upto logWholeSpec)) logWholeUptoCard

/-- THE SECOND FORM's CARD OF 'millpondkeep.LogCommutes'. -/
def logCommutesUptoCard : Claim7 := { stood := { row := logCommutesUptoRow, standIns := [], harness := (true, "b7a6d015ea04570ada96c2015a095da4f7834d4cd410c72e9ad93b3eaad22b35"), looks := true }, kinds := [], alts := [], laidByText := true, laidKinds := [.data, .data, .data, .data, .widerDeep, .pinned], laidTests := true, laidLooks := .later }
def LogCommutesUptoCardSaid : Prop := Claim7.holds Tryz.pinned (.plain (OpenSpec.upto logCommutesSpec)) logCommutesUptoCard

/-- THE SECOND FORM's CARD OF 'millpondkeep.LogBack'. -/
def logBackUptoCard : Claim7 := { stood := { row := logBackUptoRow, standIns := [], harness := (true, "b7a6d015ea04570ada96c2015a095da4f7834d4cd410c72e9ad93b3eaad22b35"), looks := true }, kinds := [], alts := [], laidByText := true, laidKinds := [.data, .data, .data, .data, .sentinel, .sentinel, .widerDeep, .pinned], laidTests := true, laidLooks := .later }
def LogBackUptoCardSaid : Prop := Claim7.holds Tryz.pinned (.plain (OpenSpec.upto logBackSpec)) logBackUptoCard
end Rows
end Go.Proofs.YtcpnnffnkegamaaGreatDoor
