/-
  NARROWER THAN 'FOR EVERY INPUT', by the rows' own cells (each row's printed sentence says how): TermKinds: loops · TermCompares: loops · TermOrder: loops · TermSorts: loops · TermTexts: loops · TermLeaves: loops.
  DERIVED. THE GIVEN ROWS OF THIS SEAT. 7 by the template 'for every input the law returns true; each argument reads behind the call as it read before'; 0 by the template 'total and deterministic' (their statements: YtldecgghhaoliaaTotals.lean).
  GIVEN WITH THE SEED: the statements are not yours to turn. If you find one false, say at which input.
  Laid BY PROGRAM, IN A SANDBOX (cutbox-rows.mjs): the forced cells as the released guide's own fill.sh prints them over the translation 8165059e0cd67833… (all of the seat's roots in one cut). By AI agents, Wed Nov 11 2026. No macro, syntax, notation, axiom, sorry.
-/
import Derived.Test.YtldecgghhaoliaaChecked
import GoSem.Claim
import GoSem.ClaimJoined
import GoSem.ClaimMapViews
import Derived.JoinedTies
import Derived.KernelRfl
namespace Go.Proofs.Ytldecgghhaoliaa
/- THE CELL 'sum', in the pinned program and in every row, IS THE sha256 OF THE DUMP (.gsa) THAT YtldecgghhaoliaaProg.lean LOADS. Nothing in Lean hashes anything: it is a label: what it is worth is what the hold of that sum in a sandbox is worth. -/
noncomputable def Try.pinned : Pinned := { name := "ytldecgghhaoliaa", sum := "8165059e0cd6783369f78e478ab7274e970a050b631f8feea43d537bb541ad08", checked := Try.checked }
namespace Rows
def none {H : Type} : Left H := { results := [], args := [] }

/-- 'gameplayerlaw01.TermNames': WHATEVER THE INPUT: true; the input reads as it did. -/
def termNamesSpec : ChangeSpec := { name := "termNames", fn := fun _ => fun
  | [d] => { results := [.lit (.bool true)], args := [d] }
  | _ => none }
def termNamesRow : OpenClaim := { program := "ytldecgghhaoliaa", sum := "8165059e0cd6783369f78e478ab7274e970a050b631f8feea43d537bb541ad08", func := "gameplayer/gameplayerlaw01.TermNames", spec := "termNames", inPlace := ["internal/bytealg.abigen_runtime_cmpstring", "internal/abi.NoEscape"], unfollowed := true, recurses := true, apart := false }
def TermNamesSaid : Prop := termNamesRow.holds Try.pinned (OpenSpec.ofChange termNamesSpec)

/-- ITS FALSE NEIGHBOUR: 'it returns false'. Refute it at one input. -/
def termNamesWrong : ChangeSpec := { name := "termNames", fn := fun _ => fun
  | [d] => { results := [.lit (.bool false)], args := [d] }
  | _ => none }
def TermNamesWrongFalsely : Prop := termNamesRow.holds Try.pinned (OpenSpec.ofChange termNamesWrong)

/-- 'gameplayerlaw01.TermKinds': WHATEVER THE INPUT: true; the input reads as it did. -/
def termKindsSpec : ChangeSpec := { name := "termKinds", fn := fun _ => fun
  | [d] => { results := [.lit (.bool true)], args := [d] }
  | _ => none }
def termKindsRow : OpenClaim := { program := "ytldecgghhaoliaa", sum := "8165059e0cd6783369f78e478ab7274e970a050b631f8feea43d537bb541ad08", func := "gameplayer/gameplayerlaw01.TermKinds", spec := "termKinds", inPlace := ["internal/bytealg.abigen_runtime_cmpstring", "internal/abi.NoEscape"], unfollowed := true, recurses := true, loops := true, apart := false }
def TermKindsSaid : Prop := termKindsRow.holds Try.pinned (OpenSpec.ofChange termKindsSpec)

/-- ITS FALSE NEIGHBOUR: 'it returns false'. Refute it at one input. -/
def termKindsWrong : ChangeSpec := { name := "termKinds", fn := fun _ => fun
  | [d] => { results := [.lit (.bool false)], args := [d] }
  | _ => none }
def TermKindsWrongFalsely : Prop := termKindsRow.holds Try.pinned (OpenSpec.ofChange termKindsWrong)

/-- 'gameplayerlaw01.TermCompares': WHATEVER THE INPUT: true; the input reads as it did. -/
def termComparesSpec : ChangeSpec := { name := "termCompares", fn := fun _ => fun
  | [d1, d2] => { results := [.lit (.bool true)], args := [d1, d2] }
  | _ => none }
def termComparesRow : OpenClaim := { program := "ytldecgghhaoliaa", sum := "8165059e0cd6783369f78e478ab7274e970a050b631f8feea43d537bb541ad08", func := "gameplayer/gameplayerlaw01.TermCompares", spec := "termCompares", inPlace := ["internal/bytealg.abigen_runtime_cmpstring", "internal/abi.NoEscape"], unfollowed := true, recurses := true, loops := true, apart := false }
def TermComparesSaid : Prop := termComparesRow.holds Try.pinned (OpenSpec.ofChange termComparesSpec)

/-- ITS FALSE NEIGHBOUR: 'it returns false'. Refute it at one input. -/
def termComparesWrong : ChangeSpec := { name := "termCompares", fn := fun _ => fun
  | [d1, d2] => { results := [.lit (.bool false)], args := [d1, d2] }
  | _ => none }
def TermComparesWrongFalsely : Prop := termComparesRow.holds Try.pinned (OpenSpec.ofChange termComparesWrong)

/-- 'gameplayerlaw01.TermOrder': WHATEVER THE INPUT: true; the input reads as it did. -/
def termOrderSpec : ChangeSpec := { name := "termOrder", fn := fun _ => fun
  | [d1, d2, d3] => { results := [.lit (.bool true)], args := [d1, d2, d3] }
  | _ => none }
def termOrderRow : OpenClaim := { program := "ytldecgghhaoliaa", sum := "8165059e0cd6783369f78e478ab7274e970a050b631f8feea43d537bb541ad08", func := "gameplayer/gameplayerlaw01.TermOrder", spec := "termOrder", inPlace := ["internal/bytealg.abigen_runtime_cmpstring", "internal/abi.NoEscape"], unfollowed := true, recurses := true, loops := true, apart := false }
def TermOrderSaid : Prop := termOrderRow.holds Try.pinned (OpenSpec.ofChange termOrderSpec)

/-- ITS FALSE NEIGHBOUR: 'it returns false'. Refute it at one input. -/
def termOrderWrong : ChangeSpec := { name := "termOrder", fn := fun _ => fun
  | [d1, d2, d3] => { results := [.lit (.bool false)], args := [d1, d2, d3] }
  | _ => none }
def TermOrderWrongFalsely : Prop := termOrderRow.holds Try.pinned (OpenSpec.ofChange termOrderWrong)

/-- 'gameplayerlaw01.TermSorts': WHATEVER THE INPUT: true; the input reads as it did. -/
def termSortsSpec : ChangeSpec := { name := "termSorts", fn := fun _ => fun
  | [d1, d2] => { results := [.lit (.bool true)], args := [d1, d2] }
  | _ => none }
def termSortsRow : OpenClaim := { program := "ytldecgghhaoliaa", sum := "8165059e0cd6783369f78e478ab7274e970a050b631f8feea43d537bb541ad08", func := "gameplayer/gameplayerlaw01.TermSorts", spec := "termSorts", inPlace := ["internal/bytealg.abigen_runtime_cmpstring", "internal/abi.NoEscape"], unfollowed := true, recurses := true, loops := true, apart := false }
def TermSortsSaid : Prop := termSortsRow.holds Try.pinned (OpenSpec.ofChange termSortsSpec)

/-- ITS FALSE NEIGHBOUR: 'it returns false'. Refute it at one input. -/
def termSortsWrong : ChangeSpec := { name := "termSorts", fn := fun _ => fun
  | [d1, d2] => { results := [.lit (.bool false)], args := [d1, d2] }
  | _ => none }
def TermSortsWrongFalsely : Prop := termSortsRow.holds Try.pinned (OpenSpec.ofChange termSortsWrong)

/-- 'gameplayerlaw01.TermTexts': WHATEVER THE INPUT: true; the input reads as it did. -/
def termTextsSpec : ChangeSpec := { name := "termTexts", fn := fun _ => fun
  | [d1, d2] => { results := [.lit (.bool true)], args := [d1, d2] }
  | _ => none }
def termTextsRow : OpenClaim := { program := "ytldecgghhaoliaa", sum := "8165059e0cd6783369f78e478ab7274e970a050b631f8feea43d537bb541ad08", func := "gameplayer/gameplayerlaw01.TermTexts", spec := "termTexts", inPlace := ["internal/bytealg.abigen_runtime_cmpstring", "internal/abi.NoEscape"], unfollowed := true, recurses := true, loops := true, apart := false }
def TermTextsSaid : Prop := termTextsRow.holds Try.pinned (OpenSpec.ofChange termTextsSpec)

/-- ITS FALSE NEIGHBOUR: 'it returns false'. Refute it at one input. -/
def termTextsWrong : ChangeSpec := { name := "termTexts", fn := fun _ => fun
  | [d1, d2] => { results := [.lit (.bool false)], args := [d1, d2] }
  | _ => none }
def TermTextsWrongFalsely : Prop := termTextsRow.holds Try.pinned (OpenSpec.ofChange termTextsWrong)

/-- 'gameplayerlaw01.TermLeaves': WHATEVER THE INPUT: true; the input reads as it did. -/
def termLeavesSpec : ChangeSpec := { name := "termLeaves", fn := fun _ => fun
  | [d] => { results := [.lit (.bool true)], args := [d] }
  | _ => none }
def termLeavesRow : OpenClaim := { program := "ytldecgghhaoliaa", sum := "8165059e0cd6783369f78e478ab7274e970a050b631f8feea43d537bb541ad08", func := "gameplayer/gameplayerlaw01.TermLeaves", spec := "termLeaves", inPlace := ["internal/bytealg.abigen_runtime_cmpstring", "internal/abi.NoEscape"], unfollowed := true, recurses := true, loops := true, apart := false }
def TermLeavesSaid : Prop := termLeavesRow.holds Try.pinned (OpenSpec.ofChange termLeavesSpec)

/-- ITS FALSE NEIGHBOUR: 'it returns false'. Refute it at one input. -/
def termLeavesWrong : ChangeSpec := { name := "termLeaves", fn := fun _ => fun
  | [d] => { results := [.lit (.bool false)], args := [d] }
  | _ => none }
def TermLeavesWrongFalsely : Prop := termLeavesRow.holds Try.pinned (OpenSpec.ofChange termLeavesWrong)

/- THE SECOND FORM. 'bulk': how many values and letters a reading holds, each counted each time it is reached (what is shared counts as often as it is met; a slice's spare places count too). A statement '..UptoSaid' is the law's where the arguments, and the package variables that the reading takes, are together of bulk at most 1048576: NARROWER than '..Said'. Prove '..Said' where nothing that the law and all that it calls make is longer than what came in: it says more and counts as full. Else prove '..UptoSaid'. A law counts once. -/
mutual
def uptoBulk {H : Type} : DataW H → Nat
  | .lit (.string bytes) => bytes.length + 1
  | .lit _ => 1
  | .nil => 1
  | .ptr d => uptoBulk d + 1
  | .slice elems spare => uptoBulkAll elems + uptoBulkAll spare + 1
  | .agg parts => uptoBulkAll parts + 1
  | .iface _ d => uptoBulk d + 1
  | .map entries => uptoBulkEntries entries + 1
  | .held _ => 1
def uptoBulkAll {H : Type} : List (DataW H) → Nat
  | [] => 0
  | d :: r => uptoBulk d + uptoBulkAll r
def uptoBulkEntries {H : Type} : List (Lit × DataW H) → Nat
  | [] => 0
  | x :: r => uptoBulkEntry x + uptoBulkEntries r
def uptoBulkEntry {H : Type} : Lit × DataW H → Nat
  | (.string bytes, d) => bytes.length + uptoBulk d + 1
  | (_, d) => uptoBulk d + 1
 end
def uptoSmall : (H : Type) → List (DataW H) → Bool := fun _ ds => decide (uptoBulkAll ds ≤ 1048576)
def OpenSpec.upto (s : _root_.Go.ChangeSpec) : _root_.Go.OpenSpec := { _root_.Go.OpenSpec.ofChange s with cond := some uptoSmall }

/-- 'gameplayerlaw01.TermNames', WHERE WHAT IT READS IS OF BULK AT MOST 1048576: true; the input reads as it did. -/
def termNamesUptoRow : OpenClaim := { program := "ytldecgghhaoliaa", sum := "8165059e0cd6783369f78e478ab7274e970a050b631f8feea43d537bb541ad08", func := "gameplayer/gameplayerlaw01.TermNames", spec := "termNames", inPlace := ["internal/bytealg.abigen_runtime_cmpstring", "internal/abi.NoEscape"], unfollowed := true, recurses := true, apart := false, narrowed := true }
def TermNamesUptoSaid : Prop := termNamesUptoRow.holds Try.pinned (OpenSpec.upto termNamesSpec)

/-- 'gameplayerlaw01.TermKinds', WHERE WHAT IT READS IS OF BULK AT MOST 1048576: true; the input reads as it did. -/
def termKindsUptoRow : OpenClaim := { program := "ytldecgghhaoliaa", sum := "8165059e0cd6783369f78e478ab7274e970a050b631f8feea43d537bb541ad08", func := "gameplayer/gameplayerlaw01.TermKinds", spec := "termKinds", inPlace := ["internal/bytealg.abigen_runtime_cmpstring", "internal/abi.NoEscape"], unfollowed := true, recurses := true, loops := true, apart := false, narrowed := true }
def TermKindsUptoSaid : Prop := termKindsUptoRow.holds Try.pinned (OpenSpec.upto termKindsSpec)

/-- 'gameplayerlaw01.TermCompares', WHERE WHAT IT READS IS OF BULK AT MOST 1048576: true; the input reads as it did. -/
def termComparesUptoRow : OpenClaim := { program := "ytldecgghhaoliaa", sum := "8165059e0cd6783369f78e478ab7274e970a050b631f8feea43d537bb541ad08", func := "gameplayer/gameplayerlaw01.TermCompares", spec := "termCompares", inPlace := ["internal/bytealg.abigen_runtime_cmpstring", "internal/abi.NoEscape"], unfollowed := true, recurses := true, loops := true, apart := false, narrowed := true }
def TermComparesUptoSaid : Prop := termComparesUptoRow.holds Try.pinned (OpenSpec.upto termComparesSpec)

/-- 'gameplayerlaw01.TermOrder', WHERE WHAT IT READS IS OF BULK AT MOST 1048576: true; the input reads as it did. -/
def termOrderUptoRow : OpenClaim := { program := "ytldecgghhaoliaa", sum := "8165059e0cd6783369f78e478ab7274e970a050b631f8feea43d537bb541ad08", func := "gameplayer/gameplayerlaw01.TermOrder", spec := "termOrder", inPlace := ["internal/bytealg.abigen_runtime_cmpstring", "internal/abi.NoEscape"], unfollowed := true, recurses := true, loops := true, apart := false, narrowed := true }
def TermOrderUptoSaid : Prop := termOrderUptoRow.holds Try.pinned (OpenSpec.upto termOrderSpec)

/-- 'gameplayerlaw01.TermSorts', WHERE WHAT IT READS IS OF BULK AT MOST 1048576: true; the input reads as it did. -/
def termSortsUptoRow : OpenClaim := { program := "ytldecgghhaoliaa", sum := "8165059e0cd6783369f78e478ab7274e970a050b631f8feea43d537bb541ad08", func := "gameplayer/gameplayerlaw01.TermSorts", spec := "termSorts", inPlace := ["internal/bytealg.abigen_runtime_cmpstring", "internal/abi.NoEscape"], unfollowed := true, recurses := true, loops := true, apart := false, narrowed := true }
def TermSortsUptoSaid : Prop := termSortsUptoRow.holds Try.pinned (OpenSpec.upto termSortsSpec)

/-- 'gameplayerlaw01.TermTexts', WHERE WHAT IT READS IS OF BULK AT MOST 1048576: true; the input reads as it did. -/
def termTextsUptoRow : OpenClaim := { program := "ytldecgghhaoliaa", sum := "8165059e0cd6783369f78e478ab7274e970a050b631f8feea43d537bb541ad08", func := "gameplayer/gameplayerlaw01.TermTexts", spec := "termTexts", inPlace := ["internal/bytealg.abigen_runtime_cmpstring", "internal/abi.NoEscape"], unfollowed := true, recurses := true, loops := true, apart := false, narrowed := true }
def TermTextsUptoSaid : Prop := termTextsUptoRow.holds Try.pinned (OpenSpec.upto termTextsSpec)

/-- 'gameplayerlaw01.TermLeaves', WHERE WHAT IT READS IS OF BULK AT MOST 1048576: true; the input reads as it did. -/
def termLeavesUptoRow : OpenClaim := { program := "ytldecgghhaoliaa", sum := "8165059e0cd6783369f78e478ab7274e970a050b631f8feea43d537bb541ad08", func := "gameplayer/gameplayerlaw01.TermLeaves", spec := "termLeaves", inPlace := ["internal/bytealg.abigen_runtime_cmpstring", "internal/abi.NoEscape"], unfollowed := true, recurses := true, loops := true, apart := false, narrowed := true }
def TermLeavesUptoSaid : Prop := termLeavesUptoRow.holds Try.pinned (OpenSpec.upto termLeavesSpec)

end Rows
end Go.Proofs.Ytldecgghhaoliaa
