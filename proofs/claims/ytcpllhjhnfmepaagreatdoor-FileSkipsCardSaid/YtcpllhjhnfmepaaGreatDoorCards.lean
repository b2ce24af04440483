/-
  DERIVED. GIVEN WITH THE SEED: THE CARDS: each row of YtcpllhjhnfmepaaGreatDoorRows.lean that lists a variable, with what it lists TIED to the program's text (the seventh form; the later family's looks); each row that meets fmt, with fmt's text TOLD by the authors' own Lean function (tested against real Go, not proved from fmt's source: count such statements apart). THE CARD IS WHAT COUNTS. Prove the row's statement (the work); the ties are given (YtcpllhjhnfmepaaGreatDoorTie.lean); close each card by the builder's one call (the guide's Derived/Test/ToyasCard.lean, 'card_holds'). Laid BY PROGRAM, IN A SANDBOX (cutbox-door.mjs). By AI agents, Wed Nov 11 2026. No macro, syntax, notation, axiom, sorry.
-/
import Derived.Test.YtcpllhjhnfmepaaGreatDoorRows
import GoSem.ClaimSeven
namespace Go.Proofs.YtcpllhjhnfmepaaGreatDoor
namespace Rows

/-- THE TIED CARD OF 'millpondkeep.FileBack'. -/
def fileBackCard : Claim7 := { stood := { row := fileBackRow, standIns := [], harness := (true, "768fe4825f518a9f228984edf83b18d7a2650234f74115f9d04442e6b04eea31"), looks := true }, kinds := [], alts := [], laidByText := true, laidKinds := [.data, .handle, .widerDeep, .pinned], laidTests := true, laidLooks := .later }
def FileBackCardSaid : Prop := Claim7.holds Tryz.pinned (.plain (OpenSpec.ofChange fileBackSpec)) fileBackCard

/-- THE TIED CARD OF 'millpondkeep.FileOlder'. -/
def fileOlderCard : Claim7 := { stood := { row := fileOlderRow, standIns := [], harness := (true, "768fe4825f518a9f228984edf83b18d7a2650234f74115f9d04442e6b04eea31"), looks := true }, kinds := [], alts := [], laidByText := true, laidKinds := [.data, .handle, .widerDeep, .pinned], laidTests := true, laidLooks := .later }
def FileOlderCardSaid : Prop := Claim7.holds Tryz.pinned (.plain (OpenSpec.ofChange fileOlderSpec)) fileOlderCard

/-- THE TIED CARD OF 'millpondkeep.FileSkips'. -/
def fileSkipsCard : Claim7 := { stood := { row := fileSkipsRow, standIns := [], harness := (true, "768fe4825f518a9f228984edf83b18d7a2650234f74115f9d04442e6b04eea31"), looks := true }, kinds := [], alts := [], laidByText := true, laidKinds := [.data, .handle, .widerDeep, .data, .pinned], laidTests := true, laidLooks := .later }
def FileSkipsCardSaid : Prop := Claim7.holds Tryz.pinned (.plain (OpenSpec.ofChange fileSkipsSpec)) fileSkipsCard

/-- THE SECOND FORM's CARD OF 'millpondkeep.FileBack'. -/
def fileBackUptoCard : Claim7 := { stood := { row := fileBackUptoRow, standIns := [], harness := (true, "768fe4825f518a9f228984edf83b18d7a2650234f74115f9d04442e6b04eea31"), looks := true }, kinds := [], alts := [], laidByText := true, laidKinds := [.data, .handle, .widerDeep, .pinned], laidTests := true, laidLooks := .later }
def FileBackUptoCardSaid : Prop := Claim7.holds Tryz.pinned (.plain (OpenSpec.upto fileBackSpec)) fileBackUptoCard

/-- THE SECOND FORM's CARD OF 'millpondkeep.FileOlder'. -/
def fileOlderUptoCard : Claim7 := { stood := { row := fileOlderUptoRow, standIns := [], harness := (true, "768fe4825f518a9f228984edf83b18d7a2650234f74115f9d04442e6b04eea31"), looks := true }, kinds := [], alts := [], laidByText := true, laidKinds := [.data, .handle, .widerDeep, .pinned], laidTests := true, laidLooks := .later }
def FileOlderUptoCardSaid : Prop := Claim7.holds Tryz.pinned (.plain (OpenSpec.upto fileOlderSpec)) fileOlderUptoCard

/-- THE SECOND FORM's CARD OF 'millpondkeep.FileSkips'. -/
def fileSkipsUptoCard : Claim7 := { stood := { row := fileSkipsUptoRow, standIns := [], harness := (true, "768fe4825f518a9f228984edf83b18d7a2650234f74115f9d04442e6b04eea31"), looks := true }, kinds := [], alts := [], laidByText := true, laidKinds := [.data, .handle, .widerDeep, .data, .pinned], laidTests := true, laidLooks := .later }
def FileSkipsUptoCardSaid : Prop := Claim7.holds Tryz.pinned (.plain (OpenSpec.upto fileSkipsSpec)) fileSkipsUptoCard
end Rows
end Go.Proofs.YtcpllhjhnfmepaaGreatDoor
