/-
  CameU: the arguments of the laws of terms, with what they hold.
-/
import Derived.Test.YtldecgghhaoliaaLaw3
import Derived.Test.YtldecgghhaoliaaKnobU
namespace Go.Proofs.Ytldecgghhaoliaa
open Go.Ab Go.RowKit
section
variable {H : Type} {enc : TypeId × Value → H} {W : World}
theorem cameB_term_terms : ∀ n : Nat, CameB enc Try.prog W n 28 eT mzT (fun _ => True) ∧ CameB enc Try.prog W n 26 (fun l : List Tm => .list false false (l.map eTm)) (fun l => mzL l + 1) (fun _ => True)
  | 0 => ⟨CameB.zero, CameB.zero⟩
  | n + 1 => by
    obtain ⟨h1, h2⟩ := cameB_term_terms n
    refine ⟨(CameB.struct Try.underlying28 rfl (by kernel_rfl) (CameFB.cons 1 rfl (by kernel_rfl) (CameB.string Try.underlying9) (CameFB.cons 1 rfl (by kernel_rfl) h2 CameFB.nil))).map (fun x => Tm.mk x.1 x.2.1) (fun x h => ⟨⟨trivial, Nat.le_refl _⟩, rfl⟩), ?_⟩
    refine (CameB.slice Try.underlying26 (by decide +kernel) (by decide +kernel) h1).map (fun x => x) (fun x h => ⟨⟨trivial, by rw [mzL_sum]; exact Nat.le_refl _⟩, ?_⟩)
    congr 1
    exact List.map_congr_left fun t _ => eTm_eq t
theorem cameB_term (n : Nat) : CameB enc Try.prog W n 28 eT mzT (fun _ => True) := (cameB_term_terms n).1
theorem cameB_terms (n : Nat) : CameB enc Try.prog W n 26 (fun l : List Tm => .list false false (l.map eTm)) (fun l => mzL l + 1) (fun _ => True) := (cameB_term_terms n).2
end
end Go.Proofs.Ytldecgghhaoliaa
