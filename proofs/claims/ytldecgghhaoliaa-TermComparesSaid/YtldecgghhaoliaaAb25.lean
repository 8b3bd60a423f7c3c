/-
  Ab25: from the contract of a law to its row: the call, and the parts that every law's row asks.
-/
import Derived.Test.YtldecgghhaoliaaAb24
namespace Go.Ab
open Go.RowKit Go.ChangeShapes Go.WideShapes
set_option linter.unusedVariables false

/-- A law that returns true by its contract does so at the machine, and nothing that was there turns. -/
theorem law_calls {P : Program} {f : FuncId} {as : List AV} (h : ACall P f as (fun r => r = bl true)) {W : World} {F : Bool → Facts} {cargs : Array Value} (hF : Fok F W) (hl : as.length = cargs.size)
    (ha : ∀ (i : Nat) (a : AV) (v : Value), as[i]? = some a → cargs[i]? = some v → RV F noloc a v) : Calls P f cargs W fun e W' => e = .returned (.bool true) ∧ Fr (fun _ => False) W W' :=
  (h.2 W F cargs hF hl ha).mono fun e W' ⟨v, r, F', he, hr, hp, hv⟩ => by
    subst hr
    obtain ⟨p, hv⟩ := (show ∃ p, ResV1 F' W' W.heap.size p v (bl true) from hv)
    obtain ⟨_, hv⟩ := (show AV.pure (bl true) = true ∧ RV F' noloc (bl true) v from hv)
    cases hv
    exact ⟨he, hp.fr⟩

def noF : Bool → Facts := fun _ _ _ => none
theorem noF_ok (w : World) : Fok noF w := ⟨fun _ _ _ _ h => (by cases h), fun _ _ _ h => (by cases h)⟩
end Go.Ab
