/-
  DERIVED. GIVEN WITH THE SEED: THE CARDS: each row of YtlaldfkeaalnhaaGreatDoorRows.lean that lists a variable, with what it lists TIED to the program's text (the seventh form; the later family's looks); each row that meets fmt, with fmt's text TOLD by the authors' own Lean function (tested against real Go, not proved from fmt's source: count such statements apart). THE CARD IS WHAT COUNTS. Prove the row's statement (the work); the ties are given (YtlaldfkeaalnhaaGreatDoorTie.lean); close each card by the builder's one call (the guide's Derived/Test/ToyasCard.lean, 'card_holds'). Laid BY PROGRAM, IN A SANDBOX (cutbox-door.mjs). By AI agents, Wed Nov 11 2026. No macro, syntax, notation, axiom, sorry.
-/
import Derived.Test.YtlaldfkeaalnhaaGreatDoorRows
import GoSem.ClaimSeven
namespace Go.Proofs.YtlaldfkeaalnhaaGreatDoor
namespace Rows

/-- THE TIED CARD OF 'millpondkeep.QueryParts'. -/
def queryPartsCard : Claim7 := { stood := { row := queryPartsRow, standIns := [], harness := (true, "4de1178be845b2065c71b3d582a86883a8c4a2b4e5f534f8f77e74afbea3ea5a"), looks := true }, kinds := [], alts := [], laidByText := true, laidKinds := [.data, .data, .data, .data, .handle, .sentinel, .sentinel, .widerDeep, .data, .widerDeep, .widerDeep, .pinned], laidTests := true, laidLooks := .later }
def QueryPartsCardSaid : Prop := Claim7.holds Tryz.pinned (.plain (OpenSpec.ofChange queryPartsSpec)) queryPartsCard

/-- THE TIED CARD OF 'millpondkeep.QueryOrders'. -/
def queryOrdersCard : Claim7 := { stood := { row := queryOrdersRow, standIns := [], harness := (true, "4de1178be845b2065c71b3d582a86883a8c4a2b4e5f534f8f77e74afbea3ea5a"), looks := true }, kinds := [], alts := [], laidByText := true, laidKinds := [.data, .data, .data, .data, .handle, .sentinel, .sentinel, .widerDeep, .data, .widerDeep, .widerDeep, .pinned], laidTests := true, laidLooks := .later }
def QueryOrdersCardSaid : Prop := Claim7.holds Tryz.pinned (.plain (OpenSpec.ofChange queryOrdersSpec)) queryOrdersCard

/-- THE SECOND FORM's CARD OF 'millpondkeep.QueryParts'. -/
def queryPartsUptoCard : Claim7 := { stood := { row := queryPartsUptoRow, standIns := [], harness := (true, "4de1178be845b2065c71b3d582a86883a8c4a2b4e5f534f8f77e74afbea3ea5a"), looks := true }, kinds := [], alts := [], laidByText := true, laidKinds := [.data, .data, .data, .data, .handle, .sentinel, .sentinel, .widerDeep, .data, .widerDeep, .widerDeep, .pinned], laidTests := true, laidLooks := .later }
def QueryPartsUptoCardSaid : Prop := Claim7.holds Tryz.pinned (.plain (OpenSpec.upto queryPartsSpec)) queryPartsUptoCard

/-- THE SECOND FORM's CARD OF 'millpondkeep.QueryOrders'. -/
def queryOrdersUptoCard : Claim7 := { stood := { row := queryOrdersUptoRow, standIns := [], harness := (true, "4de1178be845b2065c71b3d582a86883a8c4a2b4e5f534f8f77e74afbea3ea5a"), looks := true }, kinds := [], alts := [], laidByText := true, laidKinds := [.data, .data, .data, .data, .handle, .sentinel, .sentinel, .widerDeep, .data, .widerDeep, .widerDeep, .pinned], laidTests := true, laidLooks := .later }
def QueryOrdersUptoCardSaid : Prop := Claim7.holds Tryz.pinned (.plain (OpenSpec.upto queryOrdersSpec)) queryOrdersUptoCard
end Rows
end Go.Proofs.YtlaldfkeaalnhaaGreatDoor
