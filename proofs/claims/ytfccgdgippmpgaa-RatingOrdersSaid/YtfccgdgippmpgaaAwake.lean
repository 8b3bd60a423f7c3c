/-
  Awake: the chapter's examples, run.
-/
import Derived.Test.YtfccgdgippmpgaaTy
namespace Go.Proofs.Ytfccgdgippmpgaa
open Go.Ab
/-- The functions whose calls are run by themselves. -/
def own1 (g : FuncId) : Bool := [13, 14, 15, 17, 18, 19, 25, 32, 34, 35, 36, 37, 38, 39, 40, 41, 42, 43, 53, 54, 55, 49].contains g
def orcE : Orc := ⟨fun _ => none, fun _ => none, fun _ => false, own1⟩
theorem orcE_ok : OrcOk Try.prog orcE := ⟨fun g f h => (by cases h), fun g f h => (by cases h), fun g h x w => (by cases h)⟩
def isT : AV → Bool
  | .sc (.bool b) => b
  | _ => false
theorem isT_eq {r : AV} (h : isT r = true) : r = bl true := by
  unfold isT at h
  split at h
  · subst h; rfl
  · cases h
theorem awake_run : axIs Try.prog orcE 3000 8 [] isT = true := by kernel_rfl
theorem awake_ok : ACall Try.prog 8 [] (fun r => r = bl true) := (axIs_sound orcE_ok awake_run).mono fun _ h => isT_eq h
end Go.Proofs.Ytfccgdgippmpgaa
