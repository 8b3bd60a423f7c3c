/-
  KnobU: how much an argument holds, by the rows and by the program logic.
-/
import Derived.Test.YtldecgghhaoliaaKnob
import Derived.Test.YtldecgghhaoliaaA6
namespace Go.Proofs.Ytldecgghhaoliaa
open Go.Ab
mutual
theorem upto_eq {H : Type} : ∀ d : DataW H, Rows.uptoBulk d = bulkW d
  | .lit l => by cases l <;> rfl
  | .nil => rfl
  | .ptr d => by simp only [Rows.uptoBulk, bulkW, upto_eq d]
  | .slice a b => by simp only [Rows.uptoBulk, bulkW, upto_all a, upto_all b]
  | .agg a => by simp only [Rows.uptoBulk, bulkW, upto_all a]
  | .iface _ d => by simp only [Rows.uptoBulk, bulkW, upto_eq d]
  | .map es => by simp only [Rows.uptoBulk, bulkW, upto_entries es]
  | .held _ => rfl
theorem upto_all {H : Type} : ∀ ds : List (DataW H), Rows.uptoBulkAll ds = bulkL ds
  | [] => rfl
  | d :: r => by simp only [Rows.uptoBulkAll, bulkL, upto_eq d, upto_all r]
theorem upto_entries {H : Type} : ∀ es : List (Lit × DataW H), Rows.uptoBulkEntries es = bulkE es
  | [] => rfl
  | x :: r => by simp only [Rows.uptoBulkEntries, bulkE, upto_entry x, upto_entries r]
theorem upto_entry {H : Type} : ∀ x : Lit × DataW H, Rows.uptoBulkEntry x = bulkE1 x
  | (l, d) => by cases l <;> simp only [Rows.uptoBulkEntry, bulkE1, upto_eq d]
end
end Go.Proofs.Ytldecgghhaoliaa
