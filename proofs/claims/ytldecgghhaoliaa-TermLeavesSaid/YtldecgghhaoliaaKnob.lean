/-
  Knob: what every law's row asks of the program.
-/
import Derived.Test.YtldecgghhaoliaaTy
import Derived.Test.YtldecgghhaoliaaA5
import Derived.ChangeMaps5
namespace Go.Proofs.Ytldecgghhaoliaa
open Go.Ab Go.ChangeShapes Go.WideShapes Go.ChangeAt Go.RowKit
theorem own : ownKnob Try.prog.godebug = none := by kernel_rfl
theorem kids : Kids Try.prog (· < Try.prog.types.size) := kids_rows (by kernel_rfl) (by kernel_rfl)
theorem full : ∀ t e, t < Try.prog.types.size → Try.prog.underlying t = some (.slice e) → 0 < Try.prog.cellsOf e := slices_full_of Try.prog (by kernel_rfl)
end Go.Proofs.Ytldecgghhaoliaa
