/-
  CameT: the arguments of the laws of terms.
-/
import Derived.Test.YtldecgghhaoliaaTerm0
import Derived.Test.YtldecgghhaoliaaKnob
namespace Go.Proofs.Ytldecgghhaoliaa
open Go.Ab Go.RowKit
section
variable {H : Type} {enc : TypeId × Value → H} {W : World}
theorem came_term_terms : ∀ n : Nat, Came enc Try.prog W n 28 eT (fun _ => True) ∧ Came enc Try.prog W n 26 (fun l : List Tm => .list false false (l.map eTm)) (fun _ => True)
  | 0 => ⟨Came.zero, Came.zero⟩
  | n + 1 => by
    obtain ⟨h1, h2⟩ := came_term_terms n
    refine ⟨(Came.struct Try.underlying28 rfl (by kernel_rfl) (CameF.cons 1 rfl (by kernel_rfl) (Came.string Try.underlying9) (CameF.cons 1 rfl (by kernel_rfl) h2 CameF.nil))).map (fun x => Tm.mk x.1 x.2.1) (fun x h => ⟨trivial, rfl⟩), ?_⟩
    refine (Came.slice Try.underlying26 (by decide +kernel) (by decide +kernel) h1).map (fun x => x) (fun x h => ⟨trivial, ?_⟩)
    congr 1
    exact List.map_congr_left fun t _ => eTm_eq t
theorem came_term (n : Nat) : Came enc Try.prog W n 28 eT (fun _ => True) := (came_term_terms n).1
theorem came_terms (n : Nat) : Came enc Try.prog W n 26 (fun l : List Tm => .list false false (l.map eTm)) (fun _ => True) := (came_term_terms n).2
end
end Go.Proofs.Ytldecgghhaoliaa
