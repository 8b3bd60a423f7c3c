/-
  NARROWER THAN 'FOR EVERY INPUT', by the rows' own cells (each row's printed sentence says how): RelaxRounds: loops, laid · RelaxAtoms: loops, laid · RelaxParts: loops, laid · RelaxClosed: loops, laid · RelaxGrows: loops, laid · RelaxNegations: loops, laid.
  DERIVED. THE GIVEN ROWS OF THIS SEAT. 6 by the template 'for every input the law returns true; each argument reads behind the call as it read before'; 0 by the template 'total and deterministic' (their statements: YtgmibdiofkmmbaaGreatDoorTotals.lean).
  GIVEN WITH THE SEED: the statements are not yours to turn. If you find one false, say at which input.
  Laid BY PROGRAM, IN A SANDBOX (cutbox-rows.mjs): the forced cells as the released guide's own fill.sh prints them over the translation b9434a271d1ad718… (all of the seat's roots in one cut). By AI agents, Wed Nov 11 2026. No macro, syntax, notation, axiom, sorry.
-/
import Derived.Test.YtgmibdiofkmmbaaGreatDoorChecked
import GoSem.Claim
import GoSem.ClaimJoined
import GoSem.ClaimMapViews
import Derived.JoinedTies
import Derived.KernelRfl
namespace Go.Proofs.YtgmibdiofkmmbaaGreatDoor
/- THE CELL 'sum', in the pinned program and in every row, IS THE sha256 OF THE DUMP (.gsa) THAT YtgmibdiofkmmbaaGreatDoorProg.lean LOADS. Nothing in Lean hashes anything: it is a label: what it is worth is what the hold of that sum in a sandbox is worth. -/
noncomputable def Tryz.pinned : Pinned := { name := "ytgmibdiofkmmbaagreatdoor", sum := "b9434a271d1ad718d05810cad9addbb62c368b4597ee8a257910573130f96a5d", checked := Tryz.checked }
namespace Rows
def none {H : Type} : Left H := { results := [], args := [] }

/- WHAT THE LISTED PACKAGE-LEVEL VARIABLES READ AS WHEN THE CALL BEGINS. Each datum BY PROGRAM (the guide's laid-datum.mjs) off the statement by which the dump's own 'gosem.cut.vars' lays the variable. In a bare row this is a premise. The card (YtgmibdiofkmmbaaGreatDoorCards.lean) ties it to the program's text. -/
def laid_gameplayer_check_keywords {H : Type} : DataW H := .agg [.agg [.lit (.string [114, 111, 108, 101]), .lit (.int .i64 1), .lit (.bool true), .lit (.bool true)], .agg [.lit (.string [105, 110, 105, 116]), .lit (.int .i64 1), .lit (.bool true), .lit (.bool false)], .agg [.lit (.string [116, 114, 117, 101]), .lit (.int .i64 1), .lit (.bool false), .lit (.bool true)], .agg [.lit (.string [100, 111, 101, 115]), .lit (.int .i64 2), .lit (.bool false), .lit (.bool true)], .agg [.lit (.string [108, 101, 103, 97, 108]), .lit (.int .i64 2), .lit (.bool true), .lit (.bool false)], .agg [.lit (.string [110, 101, 120, 116]), .lit (.int .i64 1), .lit (.bool true), .lit (.bool false)], .agg [.lit (.string [116, 101, 114, 109, 105, 110, 97, 108]), .lit (.int .i64 0), .lit (.bool true), .lit (.bool false)], .agg [.lit (.string [103, 111, 97, 108]), .lit (.int .i64 2), .lit (.bool true), .lit (.bool false)], .agg [.lit (.string [115, 101, 101, 115]), .lit (.int .i64 2), .lit (.bool true), .lit (.bool false)], .agg [.lit (.string [100, 105, 115, 116, 105, 110, 99, 116]), .lit (.int .i64 2), .lit (.bool false), .lit (.bool true)]]

/-- 'gameplayerlaw12.RelaxRounds': WHATEVER THE INPUT: true; the input reads as it did. -/
def relaxRoundsSpec : ChangeSpec := { name := "relaxRounds", fn := fun _ => fun
  | [d1, d2] => { results := [.lit (.bool true)], args := [d1, d2] }
  | _ => none }
def relaxRoundsRow : OpenClaim := { program := "ytgmibdiofkmmbaagreatdoor", sum := "b9434a271d1ad718d05810cad9addbb62c368b4597ee8a257910573130f96a5d", func := "gameplayer/gameplayerlaw12.RelaxRounds", spec := "relaxRounds", inPlace := ["internal/bytealg.abigen_runtime_cmpstring", "slices.overlaps[gameplayer/api.Term]"], unfollowed := true, recurses := true, named := ["gameplayer/check.keywords"], loops := true, plainKeys := false, apart := false, laid := [("gameplayer/check.keywords", laid_gameplayer_check_keywords)] }
def RelaxRoundsSaid : Prop := relaxRoundsRow.holds Tryz.pinned (OpenSpec.ofChange relaxRoundsSpec)

/-- ITS FALSE NEIGHBOUR: 'it returns false'. Refute it at one input. -/
def relaxRoundsWrong : ChangeSpec := { name := "relaxRounds", fn := fun _ => fun
  | [d1, d2] => { results := [.lit (.bool false)], args := [d1, d2] }
  | _ => none }
def RelaxRoundsWrongFalsely : Prop := relaxRoundsRow.holds Tryz.pinned (OpenSpec.ofChange relaxRoundsWrong)

/-- 'gameplayerlaw12.RelaxAtoms': WHATEVER THE INPUT: true; the input reads as it did. -/
def relaxAtomsSpec : ChangeSpec := { name := "relaxAtoms", fn := fun _ => fun
  | [d] => { results := [.lit (.bool true)], args := [d] }
  | _ => none }
def relaxAtomsRow : OpenClaim := { program := "ytgmibdiofkmmbaagreatdoor", sum := "b9434a271d1ad718d05810cad9addbb62c368b4597ee8a257910573130f96a5d", func := "gameplayer/gameplayerlaw12.RelaxAtoms", spec := "relaxAtoms", inPlace := ["internal/bytealg.abigen_runtime_cmpstring", "slices.overlaps[gameplayer/api.Term]"], unfollowed := true, recurses := true, named := ["gameplayer/check.keywords"], loops := true, plainKeys := false, apart := false, laid := [("gameplayer/check.keywords", laid_gameplayer_check_keywords)] }
def RelaxAtomsSaid : Prop := relaxAtomsRow.holds Tryz.pinned (OpenSpec.ofChange relaxAtomsSpec)

/-- ITS FALSE NEIGHBOUR: 'it returns false'. Refute it at one input. -/
def relaxAtomsWrong : ChangeSpec := { name := "relaxAtoms", fn := fun _ => fun
  | [d] => { results := [.lit (.bool false)], args := [d] }
  | _ => none }
def RelaxAtomsWrongFalsely : Prop := relaxAtomsRow.holds Tryz.pinned (OpenSpec.ofChange relaxAtomsWrong)

/-- 'gameplayerlaw12.RelaxParts': WHATEVER THE INPUT: true; the input reads as it did. -/
def relaxPartsSpec : ChangeSpec := { name := "relaxParts", fn := fun _ => fun
  | [d1, d2] => { results := [.lit (.bool true)], args := [d1, d2] }
  | _ => none }
def relaxPartsRow : OpenClaim := { program := "ytgmibdiofkmmbaagreatdoor", sum := "b9434a271d1ad718d05810cad9addbb62c368b4597ee8a257910573130f96a5d", func := "gameplayer/gameplayerlaw12.RelaxParts", spec := "relaxParts", inPlace := ["internal/bytealg.abigen_runtime_cmpstring", "slices.overlaps[gameplayer/api.Term]"], unfollowed := true, recurses := true, named := ["gameplayer/check.keywords"], loops := true, plainKeys := false, apart := false, laid := [("gameplayer/check.keywords", laid_gameplayer_check_keywords)] }
def RelaxPartsSaid : Prop := relaxPartsRow.holds Tryz.pinned (OpenSpec.ofChange relaxPartsSpec)

/-- ITS FALSE NEIGHBOUR: 'it returns false'. Refute it at one input. -/
def relaxPartsWrong : ChangeSpec := { name := "relaxParts", fn := fun _ => fun
  | [d1, d2] => { results := [.lit (.bool false)], args := [d1, d2] }
  | _ => none }
def RelaxPartsWrongFalsely : Prop := relaxPartsRow.holds Tryz.pinned (OpenSpec.ofChange relaxPartsWrong)

/-- 'gameplayerlaw12.RelaxClosed': WHATEVER THE INPUT: true; the input reads as it did. -/
def relaxClosedSpec : ChangeSpec := { name := "relaxClosed", fn := fun _ => fun
  | [d1, d2] => { results := [.lit (.bool true)], args := [d1, d2] }
  | _ => none }
def relaxClosedRow : OpenClaim := { program := "ytgmibdiofkmmbaagreatdoor", sum := "b9434a271d1ad718d05810cad9addbb62c368b4597ee8a257910573130f96a5d", func := "gameplayer/gameplayerlaw12.RelaxClosed", spec := "relaxClosed", inPlace := ["internal/bytealg.abigen_runtime_cmpstring", "slices.overlaps[gameplayer/api.Term]"], unfollowed := true, recurses := true, named := ["gameplayer/check.keywords"], loops := true, plainKeys := false, apart := false, laid := [("gameplayer/check.keywords", laid_gameplayer_check_keywords)] }
def RelaxClosedSaid : Prop := relaxClosedRow.holds Tryz.pinned (OpenSpec.ofChange relaxClosedSpec)

/-- ITS FALSE NEIGHBOUR: 'it returns false'. Refute it at one input. -/
def relaxClosedWrong : ChangeSpec := { name := "relaxClosed", fn := fun _ => fun
  | [d1, d2] => { results := [.lit (.bool false)], args := [d1, d2] }
  | _ => none }
def RelaxClosedWrongFalsely : Prop := relaxClosedRow.holds Tryz.pinned (OpenSpec.ofChange relaxClosedWrong)

/-- 'gameplayerlaw12.RelaxGrows': WHATEVER THE INPUT: true; the input reads as it did. -/
def relaxGrowsSpec : ChangeSpec := { name := "relaxGrows", fn := fun _ => fun
  | [d1, d2, d3] => { results := [.lit (.bool true)], args := [d1, d2, d3] }
  | _ => none }
def relaxGrowsRow : OpenClaim := { program := "ytgmibdiofkmmbaagreatdoor", sum := "b9434a271d1ad718d05810cad9addbb62c368b4597ee8a257910573130f96a5d", func := "gameplayer/gameplayerlaw12.RelaxGrows", spec := "relaxGrows", inPlace := ["internal/bytealg.abigen_runtime_cmpstring", "slices.overlaps[gameplayer/api.Term]"], unfollowed := true, recurses := true, named := ["gameplayer/check.keywords"], loops := true, plainKeys := false, apart := false, laid := [("gameplayer/check.keywords", laid_gameplayer_check_keywords)] }
def RelaxGrowsSaid : Prop := relaxGrowsRow.holds Tryz.pinned (OpenSpec.ofChange relaxGrowsSpec)

/-- ITS FALSE NEIGHBOUR: 'it returns false'. Refute it at one input. -/
def relaxGrowsWrong : ChangeSpec := { name := "relaxGrows", fn := fun _ => fun
  | [d1, d2, d3] => { results := [.lit (.bool false)], args := [d1, d2, d3] }
  | _ => none }
def RelaxGrowsWrongFalsely : Prop := relaxGrowsRow.holds Tryz.pinned (OpenSpec.ofChange relaxGrowsWrong)

/-- 'gameplayerlaw12.RelaxNegations': WHATEVER THE INPUT: true; the input reads as it did. -/
def relaxNegationsSpec : ChangeSpec := { name := "relaxNegations", fn := fun _ => fun
  | [d] => { results := [.lit (.bool true)], args := [d] }
  | _ => none }
def relaxNegationsRow : OpenClaim := { program := "ytgmibdiofkmmbaagreatdoor", sum := "b9434a271d1ad718d05810cad9addbb62c368b4597ee8a257910573130f96a5d", func := "gameplayer/gameplayerlaw12.RelaxNegations", spec := "relaxNegations", inPlace := ["internal/bytealg.abigen_runtime_cmpstring", "slices.overlaps[gameplayer/api.Term]"], unfollowed := true, recurses := true, named := ["gameplayer/check.keywords"], loops := true, plainKeys := false, apart := false, laid := [("gameplayer/check.keywords", laid_gameplayer_check_keywords)] }
def RelaxNegationsSaid : Prop := relaxNegationsRow.holds Tryz.pinned (OpenSpec.ofChange relaxNegationsSpec)

/-- ITS FALSE NEIGHBOUR: 'it returns false'. Refute it at one input. -/
def relaxNegationsWrong : ChangeSpec := { name := "relaxNegations", fn := fun _ => fun
  | [d] => { results := [.lit (.bool false)], args := [d] }
  | _ => none }
def RelaxNegationsWrongFalsely : Prop := relaxNegationsRow.holds Tryz.pinned (OpenSpec.ofChange relaxNegationsWrong)

/- THE SECOND FORM. 'bulk': how many values and letters a reading holds, each counted each time it is reached (what is shared counts as often as it is met; a slice's spare places count too). A statement '..UptoSaid' is the law's where the arguments, and the package variables that the reading takes, are together of bulk at most 1048576: NARROWER than '..Said'. Prove '..Said' where nothing that the law and all that it calls make is longer than what came in: it says more and counts as full. Else prove '..UptoSaid'. A law counts once. -/
mutual
def uptoBulk {H : Type} : DataW H → Nat
  | .lit (.string bytes) => bytes.length + 1
  | .lit _ => 1
  | .nil => 1
  | .ptr d => uptoBulk d + 1
  | .slice elems spare => uptoBulkAll elems + uptoBulkAll spare + 1
  | .agg parts => uptoBulkAll parts + 1
  | .iface _ d => uptoBulk d + 1
  | .map entries => uptoBulkEntries entries + 1
  | .held _ => 1
def uptoBulkAll {H : Type} : List (DataW H) → Nat
  | [] => 0
  | d :: r => uptoBulk d + uptoBulkAll r
def uptoBulkEntries {H : Type} : List (Lit × DataW H) → Nat
  | [] => 0
  | x :: r => uptoBulkEntry x + uptoBulkEntries r
def uptoBulkEntry {H : Type} : Lit × DataW H → Nat
  | (.string bytes, d) => bytes.length + uptoBulk d + 1
  | (_, d) => uptoBulk d + 1
 end
def uptoSmall : (H : Type) → List (DataW H) → Bool := fun _ ds => decide (uptoBulkAll ds ≤ 1048576)
def OpenSpec.upto (s : _root_.Go.ChangeSpec) : _root_.Go.OpenSpec := { _root_.Go.OpenSpec.ofChange s with cond := some uptoSmall }

/-- 'gameplayerlaw12.RelaxRounds', WHERE WHAT IT READS IS OF BULK AT MOST 1048576: true; the input reads as it did. -/
def relaxRoundsUptoRow : OpenClaim := { program := "ytgmibdiofkmmbaagreatdoor", sum := "b9434a271d1ad718d05810cad9addbb62c368b4597ee8a257910573130f96a5d", func := "gameplayer/gameplayerlaw12.RelaxRounds", spec := "relaxRounds", inPlace := ["internal/bytealg.abigen_runtime_cmpstring", "slices.overlaps[gameplayer/api.Term]"], unfollowed := true, recurses := true, named := ["gameplayer/check.keywords"], loops := true, plainKeys := false, apart := false, laid := [("gameplayer/check.keywords", laid_gameplayer_check_keywords)], narrowed := true }
def RelaxRoundsUptoSaid : Prop := relaxRoundsUptoRow.holds Tryz.pinned (OpenSpec.upto relaxRoundsSpec)

/-- 'gameplayerlaw12.RelaxAtoms', WHERE WHAT IT READS IS OF BULK AT MOST 1048576: true; the input reads as it did. -/
def relaxAtomsUptoRow : OpenClaim := { program := "ytgmibdiofkmmbaagreatdoor", sum := "b9434a271d1ad718d05810cad9addbb62c368b4597ee8a257910573130f96a5d", func := "gameplayer/gameplayerlaw12.RelaxAtoms", spec := "relaxAtoms", inPlace := ["internal/bytealg.abigen_runtime_cmpstring", "slices.overlaps[gameplayer/api.Term]"], unfollowed := true, recurses := true, named := ["gameplayer/check.keywords"], loops := true, plainKeys := false, apart := false, laid := [("gameplayer/check.keywords", laid_gameplayer_check_keywords)], narrowed := true }
def RelaxAtomsUptoSaid : Prop := relaxAtomsUptoRow.holds Tryz.pinned (OpenSpec.upto relaxAtomsSpec)

/-- 'gameplayerlaw12.RelaxParts', WHERE WHAT IT READS IS OF BULK AT MOST 1048576: true; the input reads as it did. -/
def relaxPartsUptoRow : OpenClaim := { program := "ytgmibdiofkmmbaagreatdoor", sum := "b9434a271d1ad718d05810cad9addbb62c368b4597ee8a257910573130f96a5d", func := "gameplayer/gameplayerlaw12.RelaxParts", spec := "relaxParts", inPlace := ["internal/bytealg.abigen_runtime_cmpstring", "slices.overlaps[gameplayer/api.Term]"], unfollowed := true, recurses := true, named := ["gameplayer/check.keywords"], loops := true, plainKeys := false, apart := false, laid := [("gameplayer/check.keywords", laid_gameplayer_check_keywords)], narrowed := true }
def RelaxPartsUptoSaid : Prop := relaxPartsUptoRow.holds Tryz.pinned (OpenSpec.upto relaxPartsSpec)

/-- 'gameplayerlaw12.RelaxClosed', WHERE WHAT IT READS IS OF BULK AT MOST 1048576: true; the input reads as it did. -/
def relaxClosedUptoRow : OpenClaim := { program := "ytgmibdiofkmmbaagreatdoor", sum := "b9434a271d1ad718d05810cad9addbb62c368b4597ee8a257910573130f96a5d", func := "gameplayer/gameplayerlaw12.RelaxClosed", spec := "relaxClosed", inPlace := ["internal/bytealg.abigen_runtime_cmpstring", "slices.overlaps[gameplayer/api.Term]"], unfollowed := true, recurses := true, named := ["gameplayer/check.keywords"], loops := true, plainKeys := false, apart := false, laid := [("gameplayer/check.keywords", laid_gameplayer_check_keywords)], narrowed := true }
def RelaxClosedUptoSaid : Prop := relaxClosedUptoRow.holds Tryz.pinned (OpenSpec.upto relaxClosedSpec)

/-- 'gameplayerlaw12.RelaxGrows', WHERE WHAT IT READS IS OF BULK AT MOST 1048576: true; the input reads as it did. -/
def relaxGrowsUptoRow : OpenClaim := { program := "ytgmibdiofkmmbaagreatdoor", sum := "b9434a271d1ad718d05810cad9addbb62c368b4597ee8a257910573130f96a5d", func := "gameplayer/gameplayerlaw12.RelaxGrows", spec := "relaxGrows", inPlace := ["internal/bytealg.abigen_runtime_cmpstring", "slices.overlaps[gameplayer/api.Term]"], unfollowed := true, recurses := true, named := ["gameplayer/check.keywords"], loops := true, plainKeys := false, apart := false, laid := [("gameplayer/check.keywords", laid_gameplayer_check_keywords)], narrowed := true }
def RelaxGrowsUptoSaid : Prop := relaxGrowsUptoRow.holds Tryz.pinned (OpenSpec.upto relaxGrowsSpec)

/-- 'gameplayerlaw12.RelaxNegations', WHERE WHAT IT READS IS OF BULK AT MOST 1048576: true; the input reads as it did. -/
def relaxNegationsUptoRow : OpenClaim := { program := "ytgmibdiofkmmbaagreatdoor", sum := "b9434a271d1ad718d05810cad9addbb62c368b4597ee8a257910573130f96a5d", func := "gameplayer/gameplayerlaw12.RelaxNegations", spec := "relaxNegations", inPlace := ["internal/bytealg.abigen_runtime_cmpstring", "slices.overlaps[gameplayer/api.Term]"], unfollowed := true, recurses := true, named := ["gameplayer/check.keywords"], loops := true, plainKeys := false, apart := false, laid := [("gameplayer/check.keywords", laid_gameplayer_check_keywords)], narrowed := true }
def RelaxNegationsUptoSaid : Prop := relaxNegationsUptoRow.holds Tryz.pinned (OpenSpec.upto relaxNegationsSpec)

end Rows
end Go.Proofs.YtgmibdiofkmmbaaGreatDoor
