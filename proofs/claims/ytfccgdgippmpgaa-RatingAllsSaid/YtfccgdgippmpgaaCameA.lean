/-
  CameA: the arguments of the laws of ratings: lists of lists.
-/
import Derived.Test.YtfccgdgippmpgaaRate23
import Derived.Test.YtfccgdgippmpgaaCameS
namespace Go.Proofs.Ytfccgdgippmpgaa
open Go.Ab Go.RowKit
section
variable {H : Type} {enc : TypeId × Value → H} {W : World}
theorem came_matches (n : Nat) : Came enc Try.prog W n 22 (fun l : List (List Sc) => .list false false (l.map eM)) (fun l => (∀ m ∈ l, (∀ x ∈ m, x.ok) ∧ m.length * Try.prog.bytesOf 43 ≤ reachBytes) ∧ l.length * Try.prog.bytesOf 24 ≤ reachBytes) := by
  cases n with
  | zero => exact Came.zero
  | succ n => exact Came.slice Try.underlying22 (by decide +kernel) (by decide +kernel) (came_scores n)
end
end Go.Proofs.Ytfccgdgippmpgaa
