/-
  DERIVED. GIVEN WITH THE SEED: THE CARDS: each row of YtieongfdleobpaaDoorRows.lean that lists a variable, with what it lists TIED to the program's text (the seventh form; the later family's looks); each row that meets fmt, with fmt's text TOLD by the authors' own Lean function (tested against real Go, not proved from fmt's source: count such statements apart). THE CARD IS WHAT COUNTS. Prove the row's statement (the work); the ties are given (YtieongfdleobpaaDoorTie.lean); close each card by the builder's one call (the guide's Derived/Test/ToyasCard.lean, 'card_holds'). Laid BY PROGRAM, IN A SANDBOX (cutbox-door.mjs). By AI agents, Wed Nov 11 2026. No macro, syntax, notation, axiom, sorry.
-/
import Derived.Test.YtieongfdleobpaaDoorRows
import GoSem.ClaimSeven
namespace Go.Proofs.YtieongfdleobpaaDoor
namespace Rows

/-- THE TIED CARD OF 'millpondkeep.StatsSound'. -/
def statsSoundCard : Claim7 := { stood := { row := statsSoundRow, standIns := [], harness := (true, "22261dcd51402d761a338ba75a6934def0bb0dc94195a96a5c5386977f48bd93"), looks := false }, kinds := [], alts := [], laidByText := true, laidKinds := [.data], laidTests := true, laidLooks := .later }
def StatsSoundCardSaid : Prop := Claim7.holds Tryd.pinned (.plain (OpenSpec.ofChange statsSoundSpec)) statsSoundCard

/-- THE SECOND FORM's CARD OF 'millpondkeep.StatsSound'. -/
def statsSoundUptoCard : Claim7 := { stood := { row := statsSoundUptoRow, standIns := [], harness := (true, "22261dcd51402d761a338ba75a6934def0bb0dc94195a96a5c5386977f48bd93"), looks := false }, kinds := [], alts := [], laidByText := true, laidKinds := [.data], laidTests := true, laidLooks := .later }
def StatsSoundUptoCardSaid : Prop := Claim7.holds Tryd.pinned (.plain (OpenSpec.upto statsSoundSpec)) statsSoundUptoCard
end Rows
end Go.Proofs.YtieongfdleobpaaDoor
