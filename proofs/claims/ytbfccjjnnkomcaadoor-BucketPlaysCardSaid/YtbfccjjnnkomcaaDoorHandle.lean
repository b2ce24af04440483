/- The handle of the error type, laid by the program's text: what a start has, what the condition says. -/
import Derived.Test.YtbfccjjnnkomcaaDoorTell
import Derived.Test.YtbfccjjnnkomcaaDoorOpen0
import Derived.Test.YtbfccjjnnkomcaaDoorCards
import Derived.Test.YtbfccjjnnkomcaaDoorTie
import Derived.LaidMore
import Derived.LaidHandle
import Derived.Lay
import Derived.OpenShut
import Derived.Stop.Joined
import Derived.SevenTiedAt
namespace Go.Proofs.YtbfccjjnnkomcaaDoor
set_option linter.unusedSimpArgs false
set_option linter.unusedVariables false
open Go.RowKit
set_option linter.all false
open Go.ChangeShapes Go.WideShapes Go.ChangeAt Go.Joins
theorem gErr : Tryd.prog.globalNamed "errors.errorType" = some 0 := by kernel_rfl
theorem rtTy : (Tryd.prog.cutTypes.find? (·.1 == "internal/reflectlite.rtype")).map (·.2) = some 87 := by kernel_rfl
theorem oneRow : ((List.range 158).filter fun t => Tryd.prog.rowNamed t [101, 114, 114, 111, 114]) = [33] := by kernel_rfl
theorem szTypes : Tryd.prog.types.size = 158 := by kernel_rfl
theorem err_of {W : World} (h2 : handlesMet Tryd.prog [("errors.errorType", Rows.laid_errors_errorType)] W) : ErrAt W := by
  obtain ⟨name, u, ty, e1, e2, e3, e4, e5⟩ := h2 _ (List.mem_singleton.2 rfl)
  have en : name = [101, 114, 114, 111, 114] := (Option.some.inj e1).symm
  subst en
  obtain rfl := Option.some.inj (rtTy.symm.trans e2)
  have hm : ty ∈ (List.range 158).filter fun t => Tryd.prog.rowNamed t [101, 114, 114, 111, 114] := List.mem_filter.2 ⟨List.mem_range.2 (by rw [← szTypes]; exact e3), e4⟩
  rw [oneRow] at hm
  obtain rfl := List.mem_singleton.1 hm
  have hh : typeHandle Tryd.prog 33 = .pointer (some ⟨1, 33, none⟩) := by kernel_rfl
  rw [hh] at e5
  have e6 := World.var?_cell gErr e5 0
  simpa [ErrAt] using e6
/-- a start: the settled world, the handle's cell laid -/
noncomputable def baseW (os : Os) : World :=
  let w0 := World.holding Tryd.prog os ⟨#[], #[], []⟩
  { w0 with heap := w0.heap.modify 0 fun
      | .cells _ t frozen => .cells #[.iface 87 (.agg #[.pointer (some ⟨1, 33, none⟩)])] t frozen
      | o => o }
end Go.Proofs.YtbfccjjnnkomcaaDoor
