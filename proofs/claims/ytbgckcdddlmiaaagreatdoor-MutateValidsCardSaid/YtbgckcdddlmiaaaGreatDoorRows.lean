/-
  NARROWER THAN 'FOR EVERY INPUT', by the rows' own cells (each row's printed sentence says how): MutateAlls: loops, laid · MutateApplies: loops, laid · MutateValids: loops, laid.
  DERIVED. THE GIVEN ROWS OF THIS SEAT. 3 by the template 'for every input the law returns true; each argument reads behind the call as it read before'; 0 by the template 'total and deterministic' (their statements: YtbgckcdddlmiaaaGreatDoorTotals.lean).
  GIVEN WITH THE SEED: the statements are not yours to turn. If you find one false, say at which input.
  Laid BY PROGRAM, IN A SANDBOX (cutbox-rows.mjs): the forced cells as the released guide's own fill.sh prints them over the translation 918a85372569206e… (all of the seat's roots in one cut). By AI agents, Wed Nov 11 2026. No macro, syntax, notation, axiom, sorry.
-/
import Derived.Test.YtbgckcdddlmiaaaGreatDoorChecked
import GoSem.Claim
import GoSem.ClaimJoined
import GoSem.ClaimMapViews
import Derived.JoinedTies
import Derived.KernelRfl
namespace Go.Proofs.YtbgckcdddlmiaaaGreatDoor
/- THE CELL 'sum', in the pinned program and in every row, IS THE sha256 OF THE DUMP (.gsa) THAT YtbgckcdddlmiaaaGreatDoorProg.lean LOADS. Nothing in Lean hashes anything: it is a label: what it is worth is what the hold of that sum in a sandbox is worth. -/
noncomputable def Tryz.pinned : Pinned := { name := "ytbgckcdddlmiaaagreatdoor", sum := "918a85372569206eed0fdf1d5af9bd85efa7f67c2e1bb8783089dfd76996bba0", checked := Tryz.checked }
namespace Rows
def none {H : Type} : Left H := { results := [], args := [] }

/- WHAT THE LISTED PACKAGE-LEVEL VARIABLES READ AS WHEN THE CALL BEGINS. Each datum BY PROGRAM (the guide's laid-datum.mjs) off the statement by which the dump's own 'gosem.cut.vars' lays the variable. In a bare row this is a premise. The card (YtbgckcdddlmiaaaGreatDoorCards.lean) ties it to the program's text. -/
def laid_math_bits_deBruijn32tab {H : Type} : DataW H := .agg [.lit (.int .u8 0), .lit (.int .u8 1), .lit (.int .u8 28), .lit (.int .u8 2), .lit (.int .u8 29), .lit (.int .u8 14), .lit (.int .u8 24), .lit (.int .u8 3), .lit (.int .u8 30), .lit (.int .u8 22), .lit (.int .u8 20), .lit (.int .u8 15), .lit (.int .u8 25), .lit (.int .u8 17), .lit (.int .u8 4), .lit (.int .u8 8), .lit (.int .u8 31), .lit (.int .u8 27), .lit (.int .u8 13), .lit (.int .u8 23), .lit (.int .u8 21), .lit (.int .u8 19), .lit (.int .u8 16), .lit (.int .u8 7), .lit (.int .u8 26), .lit (.int .u8 12), .lit (.int .u8 18), .lit (.int .u8 6), .lit (.int .u8 11), .lit (.int .u8 5), .lit (.int .u8 10), .lit (.int .u8 9)]
def laid_math_bits_deBruijn64tab {H : Type} : DataW H := .agg [.lit (.int .u8 0), .lit (.int .u8 1), .lit (.int .u8 56), .lit (.int .u8 2), .lit (.int .u8 57), .lit (.int .u8 49), .lit (.int .u8 28), .lit (.int .u8 3), .lit (.int .u8 61), .lit (.int .u8 58), .lit (.int .u8 42), .lit (.int .u8 50), .lit (.int .u8 38), .lit (.int .u8 29), .lit (.int .u8 17), .lit (.int .u8 4), .lit (.int .u8 62), .lit (.int .u8 47), .lit (.int .u8 59), .lit (.int .u8 36), .lit (.int .u8 45), .lit (.int .u8 43), .lit (.int .u8 51), .lit (.int .u8 22), .lit (.int .u8 53), .lit (.int .u8 39), .lit (.int .u8 33), .lit (.int .u8 30), .lit (.int .u8 24), .lit (.int .u8 18), .lit (.int .u8 12), .lit (.int .u8 5), .lit (.int .u8 63), .lit (.int .u8 55), .lit (.int .u8 48), .lit (.int .u8 27), .lit (.int .u8 60), .lit (.int .u8 41), .lit (.int .u8 37), .lit (.int .u8 16), .lit (.int .u8 46), .lit (.int .u8 35), .lit (.int .u8 44), .lit (.int .u8 21), .lit (.int .u8 52), .lit (.int .u8 32), .lit (.int .u8 23), .lit (.int .u8 11), .lit (.int .u8 54), .lit (.int .u8 26), .lit (.int .u8 40), .lit (.int .u8 15), .lit (.int .u8 34), .lit (.int .u8 20), .lit (.int .u8 31), .lit (.int .u8 10), .lit (.int .u8 25), .lit (.int .u8 14), .lit (.int .u8 19), .lit (.int .u8 9), .lit (.int .u8 13), .lit (.int .u8 8), .lit (.int .u8 7), .lit (.int .u8 6)]
def laid_internal_strconv_uint64pow10 {H : Type} : DataW H := .agg [.lit (.int .u64 1), .lit (.int .u64 10), .lit (.int .u64 100), .lit (.int .u64 1000), .lit (.int .u64 10000), .lit (.int .u64 100000), .lit (.int .u64 1000000), .lit (.int .u64 10000000), .lit (.int .u64 100000000), .lit (.int .u64 1000000000), .lit (.int .u64 10000000000), .lit (.int .u64 100000000000), .lit (.int .u64 1000000000000), .lit (.int .u64 10000000000000), .lit (.int .u64 100000000000000), .lit (.int .u64 1000000000000000), .lit (.int .u64 10000000000000000), .lit (.int .u64 100000000000000000), .lit (.int .u64 1000000000000000000), .lit (.int .u64 10000000000000000000)]
def laid_gameplayer_mutate_phrases {H : Type} : DataW H := .agg [.slice [] [], .slice [.lit (.string [100, 114, 111, 112, 32, 114, 117, 108, 101, 32]), .lit (.string [82])] [], .slice [.lit (.string [100, 114, 111, 112, 32, 108, 105, 116, 101, 114, 97, 108, 32]), .lit (.string [73]), .lit (.string [32, 111, 102, 32, 114, 117, 108, 101, 32]), .lit (.string [82])] [], .slice [.lit (.string [110, 101, 103, 97, 116, 101, 32, 108, 105, 116, 101, 114, 97, 108, 32]), .lit (.string [73]), .lit (.string [32, 111, 102, 32, 114, 117, 108, 101, 32]), .lit (.string [82])] [], .slice [.lit (.string [114, 101, 112, 108, 97, 99, 101, 32, 99, 111, 110, 115, 116, 97, 110, 116, 32]), .lit (.string [73]), .lit (.string [32, 111, 102, 32, 114, 117, 108, 101, 32]), .lit (.string [82])] [], .slice [.lit (.string [115, 119, 97, 112, 32, 97, 114, 103, 117, 109, 101, 110, 116, 115, 32]), .lit (.string [73]), .lit (.string [32, 111, 102, 32, 114, 117, 108, 101, 32]), .lit (.string [82])] []]
def laid_gameplayer_check_keywords {H : Type} : DataW H := .agg [.agg [.lit (.string [114, 111, 108, 101]), .lit (.int .i64 1), .lit (.bool true), .lit (.bool true)], .agg [.lit (.string [105, 110, 105, 116]), .lit (.int .i64 1), .lit (.bool true), .lit (.bool false)], .agg [.lit (.string [116, 114, 117, 101]), .lit (.int .i64 1), .lit (.bool false), .lit (.bool true)], .agg [.lit (.string [100, 111, 101, 115]), .lit (.int .i64 2), .lit (.bool false), .lit (.bool true)], .agg [.lit (.string [108, 101, 103, 97, 108]), .lit (.int .i64 2), .lit (.bool true), .lit (.bool false)], .agg [.lit (.string [110, 101, 120, 116]), .lit (.int .i64 1), .lit (.bool true), .lit (.bool false)], .agg [.lit (.string [116, 101, 114, 109, 105, 110, 97, 108]), .lit (.int .i64 0), .lit (.bool true), .lit (.bool false)], .agg [.lit (.string [103, 111, 97, 108]), .lit (.int .i64 2), .lit (.bool true), .lit (.bool false)], .agg [.lit (.string [115, 101, 101, 115]), .lit (.int .i64 2), .lit (.bool true), .lit (.bool false)], .agg [.lit (.string [100, 105, 115, 116, 105, 110, 99, 116]), .lit (.int .i64 2), .lit (.bool false), .lit (.bool true)]]

/-- 'gameplayerlaw53.MutateAlls': WHATEVER THE INPUT: true; the input reads as it did. -/
def mutateAllsSpec : ChangeSpec := { name := "mutateAlls", fn := fun _ => fun
  | [d] => { results := [.lit (.bool true)], args := [d] }
  | _ => none }
def mutateAllsRow : OpenClaim := { program := "ytbgckcdddlmiaaagreatdoor", sum := "918a85372569206eed0fdf1d5af9bd85efa7f67c2e1bb8783089dfd76996bba0", func := "gameplayer/gameplayerlaw53.MutateAlls", spec := "mutateAlls", inPlace := ["internal/bytealg.abigen_runtime_cmpstring"], unfollowed := true, recurses := true, named := ["gameplayer/mutate.phrases", "internal/strconv.uint64pow10", "math/bits.deBruijn32tab", "math/bits.deBruijn64tab"], loops := true, plainKeys := false, apart := false, laid := [("math/bits.deBruijn32tab", laid_math_bits_deBruijn32tab), ("math/bits.deBruijn64tab", laid_math_bits_deBruijn64tab), ("internal/strconv.uint64pow10", laid_internal_strconv_uint64pow10), ("gameplayer/mutate.phrases", laid_gameplayer_mutate_phrases)] }
def MutateAllsSaid : Prop := mutateAllsRow.holds Tryz.pinned (OpenSpec.ofChange mutateAllsSpec)

/-- ITS FALSE NEIGHBOUR: 'it returns false'. Refute it at one input. -/
def mutateAllsWrong : ChangeSpec := { name := "mutateAlls", fn := fun _ => fun
  | [d] => { results := [.lit (.bool false)], args := [d] }
  | _ => none }
def MutateAllsWrongFalsely : Prop := mutateAllsRow.holds Tryz.pinned (OpenSpec.ofChange mutateAllsWrong)

/-- 'gameplayerlaw53.MutateApplies': WHATEVER THE INPUT: true; the input reads as it did. -/
def mutateAppliesSpec : ChangeSpec := { name := "mutateApplies", fn := fun _ => fun
  | [d1, d2] => { results := [.lit (.bool true)], args := [d1, d2] }
  | _ => none }
def mutateAppliesRow : OpenClaim := { program := "ytbgckcdddlmiaaagreatdoor", sum := "918a85372569206eed0fdf1d5af9bd85efa7f67c2e1bb8783089dfd76996bba0", func := "gameplayer/gameplayerlaw53.MutateApplies", spec := "mutateApplies", inPlace := ["internal/bytealg.abigen_runtime_cmpstring"], unfollowed := true, recurses := true, named := ["gameplayer/mutate.phrases", "internal/strconv.uint64pow10", "math/bits.deBruijn32tab", "math/bits.deBruijn64tab"], loops := true, plainKeys := false, apart := false, laid := [("math/bits.deBruijn32tab", laid_math_bits_deBruijn32tab), ("math/bits.deBruijn64tab", laid_math_bits_deBruijn64tab), ("internal/strconv.uint64pow10", laid_internal_strconv_uint64pow10), ("gameplayer/mutate.phrases", laid_gameplayer_mutate_phrases)] }
def MutateAppliesSaid : Prop := mutateAppliesRow.holds Tryz.pinned (OpenSpec.ofChange mutateAppliesSpec)

/-- ITS FALSE NEIGHBOUR: 'it returns false'. Refute it at one input. -/
def mutateAppliesWrong : ChangeSpec := { name := "mutateApplies", fn := fun _ => fun
  | [d1, d2] => { results := [.lit (.bool false)], args := [d1, d2] }
  | _ => none }
def MutateAppliesWrongFalsely : Prop := mutateAppliesRow.holds Tryz.pinned (OpenSpec.ofChange mutateAppliesWrong)

/-- 'gameplayerlaw53.MutateValids': WHATEVER THE INPUT: true; the input reads as it did. -/
def mutateValidsSpec : ChangeSpec := { name := "mutateValids", fn := fun _ => fun
  | [d] => { results := [.lit (.bool true)], args := [d] }
  | _ => none }
def mutateValidsRow : OpenClaim := { program := "ytbgckcdddlmiaaagreatdoor", sum := "918a85372569206eed0fdf1d5af9bd85efa7f67c2e1bb8783089dfd76996bba0", func := "gameplayer/gameplayerlaw53.MutateValids", spec := "mutateValids", inPlace := ["internal/bytealg.abigen_runtime_cmpstring"], unfollowed := true, recurses := true, named := ["gameplayer/mutate.phrases", "internal/strconv.uint64pow10", "math/bits.deBruijn32tab", "math/bits.deBruijn64tab", "gameplayer/check.keywords"], loops := true, plainKeys := false, apart := false, laid := [("math/bits.deBruijn32tab", laid_math_bits_deBruijn32tab), ("math/bits.deBruijn64tab", laid_math_bits_deBruijn64tab), ("internal/strconv.uint64pow10", laid_internal_strconv_uint64pow10), ("gameplayer/check.keywords", laid_gameplayer_check_keywords), ("gameplayer/mutate.phrases", laid_gameplayer_mutate_phrases)] }
def MutateValidsSaid : Prop := mutateValidsRow.holds Tryz.pinned (OpenSpec.ofChange mutateValidsSpec)

/-- ITS FALSE NEIGHBOUR: 'it returns false'. Refute it at one input. -/
def mutateValidsWrong : ChangeSpec := { name := "mutateValids", fn := fun _ => fun
  | [d] => { results := [.lit (.bool false)], args := [d] }
  | _ => none }
def MutateValidsWrongFalsely : Prop := mutateValidsRow.holds Tryz.pinned (OpenSpec.ofChange mutateValidsWrong)

/- THE SECOND FORM. 'bulk': how many values and letters a reading holds, each counted each time it is reached (what is shared counts as often as it is met; a slice's spare places count too). A statement '..UptoSaid' is the law's where the arguments, and the package variables that the reading takes, are together of bulk at most 1048576: NARROWER than '..Said'. Prove '..Said' where nothing that the law and all that it calls make is longer than what came in: it says more and counts as full. Else prove '..UptoSaid'. A law counts once. -/
mutual
def uptoBulk {H : Type} : DataW H → Nat
  | .lit (.string bytes) => bytes.length + 1
  | .lit _ => 1
  | .nil => 1
  | .ptr d => uptoBulk d + 1
  | .slice elems spare => uptoBulkAll elems + uptoBulkAll spare + 1
  | .agg parts => uptoBulkAll parts + 1
  | .iface _ d => uptoBulk d + 1
  | .map entries => uptoBulkEntries entries + 1
  | .held _ => 1
def uptoBulkAll {H : Type} : List (DataW H) → Nat
  | [] => 0
  | d :: r => uptoBulk d + uptoBulkAll r
def uptoBulkEntries {H : Type} : List (Lit × DataW H) → Nat
  | [] => 0
  | x :: r => uptoBulkEntry x + uptoBulkEntries r
def uptoBulkEntry {H : Type} : Lit × DataW H → Nat
  | (.string bytes, d) => bytes.length + uptoBulk d + 1
  | (_, d) => uptoBulk d + 1
 end
def uptoSmall : (H : Type) → List (DataW H) → Bool := fun _ ds => decide (uptoBulkAll ds ≤ 1048576)
def OpenSpec.upto (s : _root_.Go.ChangeSpec) : _root_.Go.OpenSpec := { _root_.Go.OpenSpec.ofChange s with cond := some uptoSmall }

/-- 'gameplayerlaw53.MutateAlls', WHERE WHAT IT READS IS OF BULK AT MOST 1048576: true; the input reads as it did. -/
def mutateAllsUptoRow : OpenClaim := { program := "ytbgckcdddlmiaaagreatdoor", sum := "918a85372569206eed0fdf1d5af9bd85efa7f67c2e1bb8783089dfd76996bba0", func := "gameplayer/gameplayerlaw53.MutateAlls", spec := "mutateAlls", inPlace := ["internal/bytealg.abigen_runtime_cmpstring"], unfollowed := true, recurses := true, named := ["gameplayer/mutate.phrases", "internal/strconv.uint64pow10", "math/bits.deBruijn32tab", "math/bits.deBruijn64tab"], loops := true, plainKeys := false, apart := false, laid := [("math/bits.deBruijn32tab", laid_math_bits_deBruijn32tab), ("math/bits.deBruijn64tab", laid_math_bits_deBruijn64tab), ("internal/strconv.uint64pow10", laid_internal_strconv_uint64pow10), ("gameplayer/mutate.phrases", laid_gameplayer_mutate_phrases)], narrowed := true }
def MutateAllsUptoSaid : Prop := mutateAllsUptoRow.holds Tryz.pinned (OpenSpec.upto mutateAllsSpec)

/-- 'gameplayerlaw53.MutateApplies', WHERE WHAT IT READS IS OF BULK AT MOST 1048576: true; the input reads as it did. -/
def mutateAppliesUptoRow : OpenClaim := { program := "ytbgckcdddlmiaaagreatdoor", sum := "918a85372569206eed0fdf1d5af9bd85efa7f67c2e1bb8783089dfd76996bba0", func := "gameplayer/gameplayerlaw53.MutateApplies", spec := "mutateApplies", inPlace := ["internal/bytealg.abigen_runtime_cmpstring"], unfollowed := true, recurses := true, named := ["gameplayer/mutate.phrases", "internal/strconv.uint64pow10", "math/bits.deBruijn32tab", "math/bits.deBruijn64tab"], loops := true, plainKeys := false, apart := false, laid := [("math/bits.deBruijn32tab", laid_math_bits_deBruijn32tab), ("math/bits.deBruijn64tab", laid_math_bits_deBruijn64tab), ("internal/strconv.uint64pow10", laid_internal_strconv_uint64pow10), ("gameplayer/mutate.phrases", laid_gameplayer_mutate_phrases)], narrowed := true }
def MutateAppliesUptoSaid : Prop := mutateAppliesUptoRow.holds Tryz.pinned (OpenSpec.upto mutateAppliesSpec)

/-- 'gameplayerlaw53.MutateValids', WHERE WHAT IT READS IS OF BULK AT MOST 1048576: true; the input reads as it did. -/
def mutateValidsUptoRow : OpenClaim := { program := "ytbgckcdddlmiaaagreatdoor", sum := "918a85372569206eed0fdf1d5af9bd85efa7f67c2e1bb8783089dfd76996bba0", func := "gameplayer/gameplayerlaw53.MutateValids", spec := "mutateValids", inPlace := ["internal/bytealg.abigen_runtime_cmpstring"], unfollowed := true, recurses := true, named := ["gameplayer/mutate.phrases", "internal/strconv.uint64pow10", "math/bits.deBruijn32tab", "math/bits.deBruijn64tab", "gameplayer/check.keywords"], loops := true, plainKeys := false, apart := false, laid := [("math/bits.deBruijn32tab", laid_math_bits_deBruijn32tab), ("math/bits.deBruijn64tab", laid_math_bits_deBruijn64tab), ("internal/strconv.uint64pow10", laid_internal_strconv_uint64pow10), ("gameplayer/check.keywords", laid_gameplayer_check_keywords), ("gameplayer/mutate.phrases", laid_gameplayer_mutate_phrases)], narrowed := true }
def MutateValidsUptoSaid : Prop := mutateValidsUptoRow.holds Tryz.pinned (OpenSpec.upto mutateValidsSpec)

end Rows
end Go.Proofs.YtbgckcdddlmiaaaGreatDoor
