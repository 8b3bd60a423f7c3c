/-
  No cell of these rows narrows 'for every input' (looked for: loops, veiled, ifaces, maps, wideKeys, modest, calm, conditions, laid).
  DERIVED. THE GIVEN ROWS OF THIS SEAT. 5 by the template 'for every input the law returns true; each argument reads behind the call as it read before'; 0 by the template 'total and deterministic' (their statements: YtfccgdgippmpgaaTotals.lean).
  GIVEN WITH THE SEED: the statements are not yours to turn. If you find one false, say at which input.
  Laid BY PROGRAM, IN A SANDBOX (cutbox-rows.mjs): the forced cells as the released guide's own fill.sh prints them over the translation 1dbf8fa01b2dc35c… (all of the seat's roots in one cut). By AI agents, Wed Nov 11 2026. No macro, syntax, notation, axiom, sorry.
-/
import Derived.Test.YtfccgdgippmpgaaChecked
import GoSem.Claim
import GoSem.ClaimJoined
import GoSem.ClaimMapViews
import Derived.JoinedTies
import Derived.KernelRfl
namespace Go.Proofs.Ytfccgdgippmpgaa
/- THE CELL 'sum', in the pinned program and in every row, IS THE sha256 OF THE DUMP (.gsa) THAT YtfccgdgippmpgaaProg.lean LOADS. Nothing in Lean hashes anything: it is a label: what it is worth is what the hold of that sum in a sandbox is worth. -/
noncomputable def Try.pinned : Pinned := { name := "ytfccgdgippmpgaa", sum := "1dbf8fa01b2dc35c3b61164d16eacff394c68c68efa22839750a79f9c39bbf38", checked := Try.checked }
namespace Rows
def none {H : Type} : Left H := { results := [], args := [] }

/-- 'gameplayerlaw48.RatingAlls': WHATEVER THE INPUT: true; the input reads as it did. -/
def ratingAllsSpec : ChangeSpec := { name := "ratingAlls", fn := fun _ => fun
  | [d1, d2] => { results := [.lit (.bool true)], args := [d1, d2] }
  | _ => none }
def ratingAllsRow : OpenClaim := { program := "ytfccgdgippmpgaa", sum := "1dbf8fa01b2dc35c3b61164d16eacff394c68c68efa22839750a79f9c39bbf38", func := "gameplayer/gameplayerlaw48.RatingAlls", spec := "ratingAlls", unfollowed := true, recurses := true, apart := false }
def RatingAllsSaid : Prop := ratingAllsRow.holds Try.pinned (OpenSpec.ofChange ratingAllsSpec)

/-- ITS FALSE NEIGHBOUR: 'it returns false'. Refute it at one input. -/
def ratingAllsWrong : ChangeSpec := { name := "ratingAlls", fn := fun _ => fun
  | [d1, d2] => { results := [.lit (.bool false)], args := [d1, d2] }
  | _ => none }
def RatingAllsWrongFalsely : Prop := ratingAllsRow.holds Try.pinned (OpenSpec.ofChange ratingAllsWrong)

/-- 'gameplayerlaw48.RatingExpects': WHATEVER THE INPUT: true; the input reads as it did. -/
def ratingExpectsSpec : ChangeSpec := { name := "ratingExpects", fn := fun _ => fun
  | [d1, d2] => { results := [.lit (.bool true)], args := [d1, d2] }
  | _ => none }
def ratingExpectsRow : OpenClaim := { program := "ytfccgdgippmpgaa", sum := "1dbf8fa01b2dc35c3b61164d16eacff394c68c68efa22839750a79f9c39bbf38", func := "gameplayer/gameplayerlaw48.RatingExpects", spec := "ratingExpects", unfollowed := true, recurses := true, apart := false }
def RatingExpectsSaid : Prop := ratingExpectsRow.holds Try.pinned (OpenSpec.ofChange ratingExpectsSpec)

/-- ITS FALSE NEIGHBOUR: 'it returns false'. Refute it at one input. -/
def ratingExpectsWrong : ChangeSpec := { name := "ratingExpects", fn := fun _ => fun
  | [d1, d2] => { results := [.lit (.bool false)], args := [d1, d2] }
  | _ => none }
def RatingExpectsWrongFalsely : Prop := ratingExpectsRow.holds Try.pinned (OpenSpec.ofChange ratingExpectsWrong)

/-- 'gameplayerlaw48.RatingSum': WHATEVER THE INPUT: true; the input reads as it did. -/
def ratingSumSpec : ChangeSpec := { name := "ratingSum", fn := fun _ => fun
  | [d1, d2] => { results := [.lit (.bool true)], args := [d1, d2] }
  | _ => none }
def ratingSumRow : OpenClaim := { program := "ytfccgdgippmpgaa", sum := "1dbf8fa01b2dc35c3b61164d16eacff394c68c68efa22839750a79f9c39bbf38", func := "gameplayer/gameplayerlaw48.RatingSum", spec := "ratingSum", unfollowed := true, recurses := true, apart := false }
def RatingSumSaid : Prop := ratingSumRow.holds Try.pinned (OpenSpec.ofChange ratingSumSpec)

/-- ITS FALSE NEIGHBOUR: 'it returns false'. Refute it at one input. -/
def ratingSumWrong : ChangeSpec := { name := "ratingSum", fn := fun _ => fun
  | [d1, d2] => { results := [.lit (.bool false)], args := [d1, d2] }
  | _ => none }
def RatingSumWrongFalsely : Prop := ratingSumRow.holds Try.pinned (OpenSpec.ofChange ratingSumWrong)

/-- 'gameplayerlaw48.RatingFair': WHATEVER THE INPUT: true; the input reads as it did. -/
def ratingFairSpec : ChangeSpec := { name := "ratingFair", fn := fun _ => fun
  | [d1, d2, d3, d4] => { results := [.lit (.bool true)], args := [d1, d2, d3, d4] }
  | _ => none }
def ratingFairRow : OpenClaim := { program := "ytfccgdgippmpgaa", sum := "1dbf8fa01b2dc35c3b61164d16eacff394c68c68efa22839750a79f9c39bbf38", func := "gameplayer/gameplayerlaw48.RatingFair", spec := "ratingFair", unfollowed := true, recurses := true, apart := false }
def RatingFairSaid : Prop := ratingFairRow.holds Try.pinned (OpenSpec.ofChange ratingFairSpec)

/-- ITS FALSE NEIGHBOUR: 'it returns false'. Refute it at one input. -/
def ratingFairWrong : ChangeSpec := { name := "ratingFair", fn := fun _ => fun
  | [d1, d2, d3, d4] => { results := [.lit (.bool false)], args := [d1, d2, d3, d4] }
  | _ => none }
def RatingFairWrongFalsely : Prop := ratingFairRow.holds Try.pinned (OpenSpec.ofChange ratingFairWrong)

/-- 'gameplayerlaw48.RatingOrders': WHATEVER THE INPUT: true; the input reads as it did. -/
def ratingOrdersSpec : ChangeSpec := { name := "ratingOrders", fn := fun _ => fun
  | [d] => { results := [.lit (.bool true)], args := [d] }
  | _ => none }
def ratingOrdersRow : OpenClaim := { program := "ytfccgdgippmpgaa", sum := "1dbf8fa01b2dc35c3b61164d16eacff394c68c68efa22839750a79f9c39bbf38", func := "gameplayer/gameplayerlaw48.RatingOrders", spec := "ratingOrders", unfollowed := true, recurses := true, apart := false }
def RatingOrdersSaid : Prop := ratingOrdersRow.holds Try.pinned (OpenSpec.ofChange ratingOrdersSpec)

/-- ITS FALSE NEIGHBOUR: 'it returns false'. Refute it at one input. -/
def ratingOrdersWrong : ChangeSpec := { name := "ratingOrders", fn := fun _ => fun
  | [d] => { results := [.lit (.bool false)], args := [d] }
  | _ => none }
def RatingOrdersWrongFalsely : Prop := ratingOrdersRow.holds Try.pinned (OpenSpec.ofChange ratingOrdersWrong)

/- THE SECOND FORM. 'bulk': how many values and letters a reading holds, each counted each time it is reached (what is shared counts as often as it is met; a slice's spare places count too). A statement '..UptoSaid' is the law's where the arguments, and the package variables that the reading takes, are together of bulk at most 1048576: NARROWER than '..Said'. Prove '..Said' where nothing that the law and all that it calls make is longer than what came in: it says more and counts as full. Else prove '..UptoSaid'. A law counts once. -/
mutual
def uptoBulk {H : Type} : DataW H → Nat
  | .lit (.string bytes) => bytes.length + 1
  | .lit _ => 1
  | .nil => 1
  | .ptr d => uptoBulk d + 1
  | .slice elems spare => uptoBulkAll elems + uptoBulkAll spare + 1
  | .agg parts => uptoBulkAll parts + 1
  | .iface _ d => uptoBulk d + 1
  | .map entries => uptoBulkEntries entries + 1
  | .held _ => 1
def uptoBulkAll {H : Type} : List (DataW H) → Nat
  | [] => 0
  | d :: r => uptoBulk d + uptoBulkAll r
def uptoBulkEntries {H : Type} : List (Lit × DataW H) → Nat
  | [] => 0
  | x :: r => uptoBulkEntry x + uptoBulkEntries r
def uptoBulkEntry {H : Type} : Lit × DataW H → Nat
  | (.string bytes, d) => bytes.length + uptoBulk d + 1
  | (_, d) => uptoBulk d + 1
 end
def uptoSmall : (H : Type) → List (DataW H) → Bool := fun _ ds => decide (uptoBulkAll ds ≤ 1048576)
def OpenSpec.upto (s : _root_.Go.ChangeSpec) : _root_.Go.OpenSpec := { _root_.Go.OpenSpec.ofChange s with cond := some uptoSmall }

/-- 'gameplayerlaw48.RatingAlls', WHERE WHAT IT READS IS OF BULK AT MOST 1048576: true; the input reads as it did. -/
def ratingAllsUptoRow : OpenClaim := { program := "ytfccgdgippmpgaa", sum := "1dbf8fa01b2dc35c3b61164d16eacff394c68c68efa22839750a79f9c39bbf38", func := "gameplayer/gameplayerlaw48.RatingAlls", spec := "ratingAlls", unfollowed := true, recurses := true, apart := false, narrowed := true }
def RatingAllsUptoSaid : Prop := ratingAllsUptoRow.holds Try.pinned (OpenSpec.upto ratingAllsSpec)

/-- 'gameplayerlaw48.RatingExpects', WHERE WHAT IT READS IS OF BULK AT MOST 1048576: true; the input reads as it did. -/
def ratingExpectsUptoRow : OpenClaim := { program := "ytfccgdgippmpgaa", sum := "1dbf8fa01b2dc35c3b61164d16eacff394c68c68efa22839750a79f9c39bbf38", func := "gameplayer/gameplayerlaw48.RatingExpects", spec := "ratingExpects", unfollowed := true, recurses := true, apart := false, narrowed := true }
def RatingExpectsUptoSaid : Prop := ratingExpectsUptoRow.holds Try.pinned (OpenSpec.upto ratingExpectsSpec)

/-- 'gameplayerlaw48.RatingSum', WHERE WHAT IT READS IS OF BULK AT MOST 1048576: true; the input reads as it did. -/
def ratingSumUptoRow : OpenClaim := { program := "ytfccgdgippmpgaa", sum := "1dbf8fa01b2dc35c3b61164d16eacff394c68c68efa22839750a79f9c39bbf38", func := "gameplayer/gameplayerlaw48.RatingSum", spec := "ratingSum", unfollowed := true, recurses := true, apart := false, narrowed := true }
def RatingSumUptoSaid : Prop := ratingSumUptoRow.holds Try.pinned (OpenSpec.upto ratingSumSpec)

/-- 'gameplayerlaw48.RatingFair', WHERE WHAT IT READS IS OF BULK AT MOST 1048576: true; the input reads as it did. -/
def ratingFairUptoRow : OpenClaim := { program := "ytfccgdgippmpgaa", sum := "1dbf8fa01b2dc35c3b61164d16eacff394c68c68efa22839750a79f9c39bbf38", func := "gameplayer/gameplayerlaw48.RatingFair", spec := "ratingFair", unfollowed := true, recurses := true, apart := false, narrowed := true }
def RatingFairUptoSaid : Prop := ratingFairUptoRow.holds Try.pinned (OpenSpec.upto ratingFairSpec)

/-- 'gameplayerlaw48.RatingOrders', WHERE WHAT IT READS IS OF BULK AT MOST 1048576: true; the input reads as it did. -/
def ratingOrdersUptoRow : OpenClaim := { program := "ytfccgdgippmpgaa", sum := "1dbf8fa01b2dc35c3b61164d16eacff394c68c68efa22839750a79f9c39bbf38", func := "gameplayer/gameplayerlaw48.RatingOrders", spec := "ratingOrders", unfollowed := true, recurses := true, apart := false, narrowed := true }
def RatingOrdersUptoSaid : Prop := ratingOrdersUptoRow.holds Try.pinned (OpenSpec.upto ratingOrdersSpec)

end Rows
end Go.Proofs.Ytfccgdgippmpgaa
