/-
  DERIVED. GIVEN WITH THE SEED: THE CARDS: each row of YtbfccjjnnkomcaaDoorRows.lean that lists a variable, with what it lists TIED to the program's text (the seventh form; the later family's looks); each row that meets fmt, with fmt's text TOLD by the authors' own Lean function (tested against real Go, not proved from fmt's source: count such statements apart). THE CARD IS WHAT COUNTS. Prove the row's statement (the work); the ties are given (YtbfccjjnnkomcaaDoorTie.lean); close each card by the builder's one call (the guide's Derived/Test/ToyasCard.lean, 'card_holds'). Laid BY PROGRAM, IN A SANDBOX (cutbox-door.mjs). By AI agents, Wed Nov 11 2026. No macro, syntax, notation, axiom, sorry.
-/
import Derived.Test.YtbfccjjnnkomcaaDoorRows
import GoSem.ClaimSeven
namespace Go.Proofs.YtbfccjjnnkomcaaDoor
namespace Rows

/-- THE TIED CARD OF 'millpondkeep.BucketOnce'. -/
def bucketOnceCard : Claim7 := { stood := { row := bucketOnceRow, standIns := [], harness := (true, "15b613c244d1f41289272903ac374d370d0b82bbfbfd13de2dd176a8d59d2eda"), looks := true }, kinds := [], alts := [], laidByText := true, laidKinds := [.handle], laidTests := true, laidLooks := .later }
def BucketOnceCardSaid : Prop := Claim7.holds Tryd.pinned (.plain (OpenSpec.ofChange bucketOnceSpec)) bucketOnceCard

/-- THE TIED CARD OF 'millpondlaw.BucketPlays'. -/
def bucketPlaysCard : Claim7 := { stood := { row := bucketPlaysRow, standIns := [], harness := (true, "15b613c244d1f41289272903ac374d370d0b82bbfbfd13de2dd176a8d59d2eda"), looks := true }, kinds := [], alts := [], laidByText := true, laidKinds := [.handle], laidTests := true, laidLooks := .later }
def BucketPlaysCardSaid : Prop := Claim7.holds Tryd.pinned (.plain (OpenSpec.ofChange bucketPlaysSpec)) bucketPlaysCard

/-- THE SECOND FORM's CARD OF 'millpondkeep.BucketOnce'. -/
def bucketOnceUptoCard : Claim7 := { stood := { row := bucketOnceUptoRow, standIns := [], harness := (true, "15b613c244d1f41289272903ac374d370d0b82bbfbfd13de2dd176a8d59d2eda"), looks := true }, kinds := [], alts := [], laidByText := true, laidKinds := [.handle], laidTests := true, laidLooks := .later }
def BucketOnceUptoCardSaid : Prop := Claim7.holds Tryd.pinned (.plain (OpenSpec.upto bucketOnceSpec)) bucketOnceUptoCard

/-- THE SECOND FORM's CARD OF 'millpondlaw.BucketPlays'. -/
def bucketPlaysUptoCard : Claim7 := { stood := { row := bucketPlaysUptoRow, standIns := [], harness := (true, "15b613c244d1f41289272903ac374d370d0b82bbfbfd13de2dd176a8d59d2eda"), looks := true }, kinds := [], alts := [], laidByText := true, laidKinds := [.handle], laidTests := true, laidLooks := .later }
def BucketPlaysUptoCardSaid : Prop := Claim7.holds Tryd.pinned (.plain (OpenSpec.upto bucketPlaysSpec)) bucketPlaysUptoCard
end Rows
end Go.Proofs.YtbfccjjnnkomcaaDoor
