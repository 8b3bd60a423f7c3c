/-
  CameS: the arguments of the laws of ratings: lists.
-/
import Derived.Test.YtfccgdgippmpgaaRate8
import Derived.Test.YtfccgdgippmpgaaCameR
namespace Go.Proofs.Ytfccgdgippmpgaa
open Go.Ab Go.RowKit
section
variable {H : Type} {enc : TypeId × Value → H} {W : World}
theorem came_score (n : Nat) : Came enc Try.prog W n 43 eSc Sc.ok := by
  cases n with
  | zero => exact Came.zero
  | succ n => exact (Came.struct Try.underlying43 rfl (by kernel_rfl) (CameF.cons 1 rfl (by kernel_rfl) (Came.i64 Try.underlying3) (CameF.cons 2 rfl (by kernel_rfl) (came_frac n) CameF.nil))).map (fun x => ⟨x.1, x.2.1.1, x.2.1.2⟩) (fun x h => ⟨⟨h.1, h.2.1.1, h.2.1.2⟩, rfl⟩)
theorem came_ratings (n : Nat) : Came enc Try.prog W n 25 (fun l : List Rt => .list false false (l.map eRt)) (fun l => (∀ r ∈ l, r.ok) ∧ l.length * Try.prog.bytesOf 35 ≤ reachBytes) := by
  cases n with
  | zero => exact Came.zero
  | succ n => exact Came.slice Try.underlying25 (by decide +kernel) (by decide +kernel) (came_rating n)
theorem came_scores (n : Nat) : Came enc Try.prog W n 24 (fun l : List Sc => .list false false (l.map eSc)) (fun l => (∀ r ∈ l, r.ok) ∧ l.length * Try.prog.bytesOf 43 ≤ reachBytes) := by
  cases n with
  | zero => exact Came.zero
  | succ n => exact Came.slice Try.underlying24 (by decide +kernel) (by decide +kernel) (came_score n)
end
end Go.Proofs.Ytfccgdgippmpgaa
