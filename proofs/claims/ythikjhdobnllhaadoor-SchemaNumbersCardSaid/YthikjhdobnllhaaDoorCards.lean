/-
  DERIVED. GIVEN WITH THE SEED: THE CARDS: each row of YthikjhdobnllhaaDoorRows.lean that lists a variable, with what it lists TIED to the program's text (the seventh form; the later family's looks); each row that meets fmt, with fmt's text TOLD by the authors' own Lean function (tested against real Go, not proved from fmt's source: count such statements apart). THE CARD IS WHAT COUNTS. Prove the row's statement (the work); the ties are given (YthikjhdobnllhaaDoorTie.lean); close each card by the builder's one call (the guide's Derived/Test/ToyasCard.lean, 'card_holds'). Laid BY PROGRAM, IN A SANDBOX (cutbox-door.mjs). By AI agents, Wed Nov 11 2026. No macro, syntax, notation, axiom, sorry.
-/
import Derived.Test.YthikjhdobnllhaaDoorRows
import GoSem.ClaimSeven
namespace Go.Proofs.YthikjhdobnllhaaDoor
namespace Rows

/-- THE TIED CARD OF 'millpondkeep.SchemaNumbers'. -/
def schemaNumbersCard : Claim7 := { stood := { row := schemaNumbersRow, standIns := [], harness := (true, "3fb765c3955fe7423380e16ca145f564085f9f1142db7e437ce2203ad3c6c4b2"), looks := true }, kinds := [], alts := [], laidByText := true, laidKinds := [.data, .handle, .widerDeep, .pinned], laidTests := true, laidLooks := .later }
def SchemaNumbersCardSaid : Prop := Claim7.holds Tryd.pinned (.plain (OpenSpec.ofChange schemaNumbersSpec)) schemaNumbersCard

/-- THE SECOND FORM's CARD OF 'millpondkeep.SchemaNumbers'. -/
def schemaNumbersUptoCard : Claim7 := { stood := { row := schemaNumbersUptoRow, standIns := [], harness := (true, "3fb765c3955fe7423380e16ca145f564085f9f1142db7e437ce2203ad3c6c4b2"), looks := true }, kinds := [], alts := [], laidByText := true, laidKinds := [.data, .handle, .widerDeep, .pinned], laidTests := true, laidLooks := .later }
def SchemaNumbersUptoCardSaid : Prop := Claim7.holds Tryd.pinned (.plain (OpenSpec.upto schemaNumbersSpec)) schemaNumbersUptoCard
end Rows
end Go.Proofs.YthikjhdobnllhaaDoor
