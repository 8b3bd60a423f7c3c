/-
  CameR: the arguments of the laws of ratings.
-/
import Derived.Test.YtfccgdgippmpgaaRate1
import Derived.Test.YtfccgdgippmpgaaKnob
namespace Go.Proofs.Ytfccgdgippmpgaa
open Go.Ab Go.RowKit
section
variable {H : Type} {enc : TypeId × Value → H} {W : World}
theorem came_frac (n : Nat) : Came enc Try.prog W n 33 (fun x : Int × Int => .agg [nt .i64 x.1, nt .i64 x.2]) (fun x => I64 x.1 ∧ I64 x.2) := by
  cases n with
  | zero => exact Came.zero
  | succ n => exact (Came.struct Try.underlying33 rfl (by kernel_rfl) (CameF.cons 1 rfl (by kernel_rfl) (Came.i64 Try.underlying3) (CameF.cons 1 rfl (by kernel_rfl) (Came.i64 Try.underlying3) CameF.nil))).map (fun x => (x.1, x.2.1)) (fun x h => ⟨⟨h.1, h.2.1⟩, rfl⟩)
theorem came_rating (n : Nat) : Came enc Try.prog W n 35 eRt Rt.ok := by
  cases n with
  | zero => exact Came.zero
  | succ n => exact (Came.struct Try.underlying35 rfl (by kernel_rfl) (CameF.cons 1 rfl (by kernel_rfl) (Came.i64 Try.underlying3) (CameF.cons 2 rfl (by kernel_rfl) (came_frac n) (CameF.cons 1 rfl (by kernel_rfl) (Came.i64 Try.underlying3) CameF.nil)))).map (fun x => ⟨x.1, x.2.1.1, x.2.1.2, x.2.2.1⟩) (fun x h => ⟨⟨h.1, h.2.1.1, h.2.1.2, h.2.2.1⟩, rfl⟩)
theorem came_int (n : Nat) : Came enc Try.prog W n 3 (fun i : Int => nt .i64 i) I64 := Came.i64 Try.underlying3
end
end Go.Proofs.Ytfccgdgippmpgaa
