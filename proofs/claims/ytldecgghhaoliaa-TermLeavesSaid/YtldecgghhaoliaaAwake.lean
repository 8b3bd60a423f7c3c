/-
  Awake: the chapter's examples, run.
-/
import Derived.Test.YtldecgghhaoliaaTy
namespace Go.Proofs.Ytldecgghhaoliaa
open Go.Ab
theorem noEsc (x : Value) (w : World) : (callFunc 98 #[x]).run Try.prog w = .ok (.value x) w := by kernel_rfl
/-- The functions whose calls are run by themselves. -/
def own1 (g : FuncId) : Bool := [11, 26, 22, 24, 34, 13, 18, 20, 15, 49, 31, 29, 56, 45, 74, 69, 63, 54, 57].contains g
def orcE : Orc := ⟨fun _ => none, fun _ => none, fun g => g == 98, own1⟩
theorem orcE_ok : OrcOk Try.prog orcE := ⟨fun g f h => (by cases h), fun g f h => (by cases h), fun g h x w => by
  have : g = 98 := eq_of_beq h
  subst this
  exact noEsc x w⟩
def isT : AV → Bool
  | .sc (.bool b) => b
  | _ => false
theorem isT_eq {r : AV} (h : isT r = true) : r = bl true := by
  unfold isT at h
  split at h
  · subst h; rfl
  · cases h
theorem awake_run : axIs Try.prog orcE 3000 10 [] isT = true := by kernel_rfl
theorem awake_ok : ACall Try.prog 10 [] (fun r => r = bl true) := (axIs_sound orcE_ok awake_run).mono fun _ h => isT_eq h
end Go.Proofs.Ytldecgghhaoliaa
