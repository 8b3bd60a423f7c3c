/-
  Ty2: further type facts.
-/
import Derived.Test.YtldecgghhaoliaaTy
namespace Go.Proofs.Ytldecgghhaoliaa
open Go.Ab
theorem tyZero5 : tyZero Try.prog 5 = some (.int .u8 0) := by kernel_rfl
theorem tyZero9 : tyZero Try.prog 9 = some (.string (ByteArray.mk #[])) := by kernel_rfl
theorem tyZero28 : tyZero Try.prog 28 = some (.agg #[.string (ByteArray.mk #[]), .slice none 0 0]) := by kernel_rfl
theorem tyZero48 : tyZero Try.prog 48 = some (.agg #[.int .u8 0, .int .u8 0]) := by kernel_rfl
attribute [go_sem] tyZero5 tyZero9 tyZero28 tyZero48 
end Go.Proofs.Ytldecgghhaoliaa
