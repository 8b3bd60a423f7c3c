/-
  Ty2: further type facts.
-/
import Derived.Test.YtfccgdgippmpgaaTy
namespace Go.Proofs.Ytfccgdgippmpgaa
open Go.Ab
theorem tyZero3 : tyZero Try.prog 3 = some (.int .i64 0) := by kernel_rfl
theorem tyZero24 : tyZero Try.prog 24 = some (.slice none 0 0) := by kernel_rfl
theorem tyZero35 : tyZero Try.prog 35 = some (.agg #[.int .i64 0, .int .i64 0, .int .i64 0, .int .i64 0]) := by kernel_rfl
theorem tyZero43 : tyZero Try.prog 43 = some (.agg #[.int .i64 0, .int .i64 0, .int .i64 0]) := by kernel_rfl
attribute [go_sem] tyZero3 tyZero24 tyZero35 tyZero43 
end Go.Proofs.Ytfccgdgippmpgaa
