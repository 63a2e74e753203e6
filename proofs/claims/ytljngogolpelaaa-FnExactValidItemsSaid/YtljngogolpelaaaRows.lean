/-
  No cell of these rows narrows 'for every input' (looked for: loops, veiled, ifaces, maps, wideKeys, modest, calm, conditions, laid).
  DERIVED. THE GIVEN ROWS OF THIS SEAT. 12 by the template 'for every input the law returns true; each argument reads behind the call as it read before'; 0 by the template 'total and deterministic' (their statements: YtljngogolpelaaaTotals.lean).
  GIVEN WITH THE SEED: the statements are not yours to turn. If you find one false, say at which input.
  Laid BY PROGRAM, IN A SANDBOX (cutbox-rows.mjs): the forced cells as the released guide's own fill.sh prints them over the translation 80dd4db72d2bd3e4… (all of the seat's roots in one cut). By AI agents, Wed Nov 11 2026. No macro, syntax, notation, axiom, sorry.
-/
import Derived.Test.YtljngogolpelaaaChecked
import GoSem.Claim
import GoSem.ClaimJoined
import GoSem.ClaimMapViews
import Derived.JoinedTies
import Derived.KernelRfl
namespace Go.Proofs.Ytljngogolpelaaa
/- THE CELL 'sum', in the pinned program and in every row, IS THE sha256 OF THE DUMP (.gsa) THAT YtljngogolpelaaaProg.lean LOADS. Nothing in Lean hashes anything: it is a label: what it is worth is what the hold of that sum in a sandbox is worth. -/
noncomputable def Try.pinned : Pinned := { name := "ytljngogolpelaaa", sum := "80dd4db72d2bd3e4c35f35d04bf3c7cbb9dd814520d250ebf517cc909f48d95e", checked := Try.checked }
namespace Rows
def none {H : Type} : Left H := { results := [], args := [] }

/-- 'laws.FnExactSortNotes': WHATEVER THE INPUT: true; the input reads as it did. -/
def fnExactSortNotesSpec : ChangeSpec := { name := "fnExactSortNotes", fn := fun _ => fun
  | [d] => { results := [.lit (.bool true)], args := [d] }
  | _ => none }
def fnExactSortNotesRow : OpenClaim := { program := "ytljngogolpelaaa", sum := "80dd4db72d2bd3e4c35f35d04bf3c7cbb9dd814520d250ebf517cc909f48d95e", func := "loop.example/g00903/laws.FnExactSortNotes", spec := "fnExactSortNotes", unfollowed := true, recurses := true, apart := false }
def FnExactSortNotesSaid : Prop := fnExactSortNotesRow.holds Try.pinned (OpenSpec.ofChange fnExactSortNotesSpec)

/-- ITS FALSE NEIGHBOUR: 'it returns false'. Refute it at one input. -/
def fnExactSortNotesWrong : ChangeSpec := { name := "fnExactSortNotes", fn := fun _ => fun
  | [d] => { results := [.lit (.bool false)], args := [d] }
  | _ => none }
def FnExactSortNotesWrongFalsely : Prop := fnExactSortNotesRow.holds Try.pinned (OpenSpec.ofChange fnExactSortNotesWrong)

/-- 'laws.FnExactShiftScore': WHATEVER THE INPUT: true; the input reads as it did. -/
def fnExactShiftScoreSpec : ChangeSpec := { name := "fnExactShiftScore", fn := fun _ => fun
  | [d1, d2] => { results := [.lit (.bool true)], args := [d1, d2] }
  | _ => none }
def fnExactShiftScoreRow : OpenClaim := { program := "ytljngogolpelaaa", sum := "80dd4db72d2bd3e4c35f35d04bf3c7cbb9dd814520d250ebf517cc909f48d95e", func := "loop.example/g00903/laws.FnExactShiftScore", spec := "fnExactShiftScore", unfollowed := true, recurses := true, apart := false }
def FnExactShiftScoreSaid : Prop := fnExactShiftScoreRow.holds Try.pinned (OpenSpec.ofChange fnExactShiftScoreSpec)

/-- ITS FALSE NEIGHBOUR: 'it returns false'. Refute it at one input. -/
def fnExactShiftScoreWrong : ChangeSpec := { name := "fnExactShiftScore", fn := fun _ => fun
  | [d1, d2] => { results := [.lit (.bool false)], args := [d1, d2] }
  | _ => none }
def FnExactShiftScoreWrongFalsely : Prop := fnExactShiftScoreRow.holds Try.pinned (OpenSpec.ofChange fnExactShiftScoreWrong)

/-- 'laws.FnExactInvertScore': WHATEVER THE INPUT: true; the input reads as it did. -/
def fnExactInvertScoreSpec : ChangeSpec := { name := "fnExactInvertScore", fn := fun _ => fun
  | [d1, d2] => { results := [.lit (.bool true)], args := [d1, d2] }
  | _ => none }
def fnExactInvertScoreRow : OpenClaim := { program := "ytljngogolpelaaa", sum := "80dd4db72d2bd3e4c35f35d04bf3c7cbb9dd814520d250ebf517cc909f48d95e", func := "loop.example/g00903/laws.FnExactInvertScore", spec := "fnExactInvertScore", unfollowed := true, recurses := true, apart := false }
def FnExactInvertScoreSaid : Prop := fnExactInvertScoreRow.holds Try.pinned (OpenSpec.ofChange fnExactInvertScoreSpec)

/-- ITS FALSE NEIGHBOUR: 'it returns false'. Refute it at one input. -/
def fnExactInvertScoreWrong : ChangeSpec := { name := "fnExactInvertScore", fn := fun _ => fun
  | [d1, d2] => { results := [.lit (.bool false)], args := [d1, d2] }
  | _ => none }
def FnExactInvertScoreWrongFalsely : Prop := fnExactInvertScoreRow.holds Try.pinned (OpenSpec.ofChange fnExactInvertScoreWrong)

/-- 'laws.FnExactTransposeScore': WHATEVER THE INPUT: true; the input reads as it did. -/
def fnExactTransposeScoreSpec : ChangeSpec := { name := "fnExactTransposeScore", fn := fun _ => fun
  | [d1, d2] => { results := [.lit (.bool true)], args := [d1, d2] }
  | _ => none }
def fnExactTransposeScoreRow : OpenClaim := { program := "ytljngogolpelaaa", sum := "80dd4db72d2bd3e4c35f35d04bf3c7cbb9dd814520d250ebf517cc909f48d95e", func := "loop.example/g00903/laws.FnExactTransposeScore", spec := "fnExactTransposeScore", unfollowed := true, recurses := true, apart := false }
def FnExactTransposeScoreSaid : Prop := fnExactTransposeScoreRow.holds Try.pinned (OpenSpec.ofChange fnExactTransposeScoreSpec)

/-- ITS FALSE NEIGHBOUR: 'it returns false'. Refute it at one input. -/
def fnExactTransposeScoreWrong : ChangeSpec := { name := "fnExactTransposeScore", fn := fun _ => fun
  | [d1, d2] => { results := [.lit (.bool false)], args := [d1, d2] }
  | _ => none }
def FnExactTransposeScoreWrongFalsely : Prop := fnExactTransposeScoreRow.holds Try.pinned (OpenSpec.ofChange fnExactTransposeScoreWrong)

/-- 'laws.FnExactMergeScores': WHATEVER THE INPUT: true; the input reads as it did. -/
def fnExactMergeScoresSpec : ChangeSpec := { name := "fnExactMergeScores", fn := fun _ => fun
  | [d1, d2] => { results := [.lit (.bool true)], args := [d1, d2] }
  | _ => none }
def fnExactMergeScoresRow : OpenClaim := { program := "ytljngogolpelaaa", sum := "80dd4db72d2bd3e4c35f35d04bf3c7cbb9dd814520d250ebf517cc909f48d95e", func := "loop.example/g00903/laws.FnExactMergeScores", spec := "fnExactMergeScores", unfollowed := true, recurses := true, apart := false }
def FnExactMergeScoresSaid : Prop := fnExactMergeScoresRow.holds Try.pinned (OpenSpec.ofChange fnExactMergeScoresSpec)

/-- ITS FALSE NEIGHBOUR: 'it returns false'. Refute it at one input. -/
def fnExactMergeScoresWrong : ChangeSpec := { name := "fnExactMergeScores", fn := fun _ => fun
  | [d1, d2] => { results := [.lit (.bool false)], args := [d1, d2] }
  | _ => none }
def FnExactMergeScoresWrongFalsely : Prop := fnExactMergeScoresRow.holds Try.pinned (OpenSpec.ofChange fnExactMergeScoresWrong)

/-- 'laws.FnExactStretchScore': WHATEVER THE INPUT: true; the input reads as it did. -/
def fnExactStretchScoreSpec : ChangeSpec := { name := "fnExactStretchScore", fn := fun _ => fun
  | [d1, d2] => { results := [.lit (.bool true)], args := [d1, d2] }
  | _ => none }
def fnExactStretchScoreRow : OpenClaim := { program := "ytljngogolpelaaa", sum := "80dd4db72d2bd3e4c35f35d04bf3c7cbb9dd814520d250ebf517cc909f48d95e", func := "loop.example/g00903/laws.FnExactStretchScore", spec := "fnExactStretchScore", unfollowed := true, recurses := true, apart := false }
def FnExactStretchScoreSaid : Prop := fnExactStretchScoreRow.holds Try.pinned (OpenSpec.ofChange fnExactStretchScoreSpec)

/-- ITS FALSE NEIGHBOUR: 'it returns false'. Refute it at one input. -/
def fnExactStretchScoreWrong : ChangeSpec := { name := "fnExactStretchScore", fn := fun _ => fun
  | [d1, d2] => { results := [.lit (.bool false)], args := [d1, d2] }
  | _ => none }
def FnExactStretchScoreWrongFalsely : Prop := fnExactStretchScoreRow.holds Try.pinned (OpenSpec.ofChange fnExactStretchScoreWrong)

/-- 'laws.FnExactQuantizeScore': WHATEVER THE INPUT: true; the input reads as it did. -/
def fnExactQuantizeScoreSpec : ChangeSpec := { name := "fnExactQuantizeScore", fn := fun _ => fun
  | [d1, d2] => { results := [.lit (.bool true)], args := [d1, d2] }
  | _ => none }
def fnExactQuantizeScoreRow : OpenClaim := { program := "ytljngogolpelaaa", sum := "80dd4db72d2bd3e4c35f35d04bf3c7cbb9dd814520d250ebf517cc909f48d95e", func := "loop.example/g00903/laws.FnExactQuantizeScore", spec := "fnExactQuantizeScore", unfollowed := true, recurses := true, apart := false }
def FnExactQuantizeScoreSaid : Prop := fnExactQuantizeScoreRow.holds Try.pinned (OpenSpec.ofChange fnExactQuantizeScoreSpec)

/-- ITS FALSE NEIGHBOUR: 'it returns false'. Refute it at one input. -/
def fnExactQuantizeScoreWrong : ChangeSpec := { name := "fnExactQuantizeScore", fn := fun _ => fun
  | [d1, d2] => { results := [.lit (.bool false)], args := [d1, d2] }
  | _ => none }
def FnExactQuantizeScoreWrongFalsely : Prop := fnExactQuantizeScoreRow.holds Try.pinned (OpenSpec.ofChange fnExactQuantizeScoreWrong)

/-- 'laws.FnExactReverseScore': WHATEVER THE INPUT: true; the input reads as it did. -/
def fnExactReverseScoreSpec : ChangeSpec := { name := "fnExactReverseScore", fn := fun _ => fun
  | [d] => { results := [.lit (.bool true)], args := [d] }
  | _ => none }
def fnExactReverseScoreRow : OpenClaim := { program := "ytljngogolpelaaa", sum := "80dd4db72d2bd3e4c35f35d04bf3c7cbb9dd814520d250ebf517cc909f48d95e", func := "loop.example/g00903/laws.FnExactReverseScore", spec := "fnExactReverseScore", unfollowed := true, recurses := true, apart := false }
def FnExactReverseScoreSaid : Prop := fnExactReverseScoreRow.holds Try.pinned (OpenSpec.ofChange fnExactReverseScoreSpec)

/-- ITS FALSE NEIGHBOUR: 'it returns false'. Refute it at one input. -/
def fnExactReverseScoreWrong : ChangeSpec := { name := "fnExactReverseScore", fn := fun _ => fun
  | [d] => { results := [.lit (.bool false)], args := [d] }
  | _ => none }
def FnExactReverseScoreWrongFalsely : Prop := fnExactReverseScoreRow.holds Try.pinned (OpenSpec.ofChange fnExactReverseScoreWrong)

/-- 'laws.FnExactCutScore': WHATEVER THE INPUT: true; the input reads as it did. -/
def fnExactCutScoreSpec : ChangeSpec := { name := "fnExactCutScore", fn := fun _ => fun
  | [d1, d2, d3] => { results := [.lit (.bool true)], args := [d1, d2, d3] }
  | _ => none }
def fnExactCutScoreRow : OpenClaim := { program := "ytljngogolpelaaa", sum := "80dd4db72d2bd3e4c35f35d04bf3c7cbb9dd814520d250ebf517cc909f48d95e", func := "loop.example/g00903/laws.FnExactCutScore", spec := "fnExactCutScore", unfollowed := true, recurses := true, apart := false }
def FnExactCutScoreSaid : Prop := fnExactCutScoreRow.holds Try.pinned (OpenSpec.ofChange fnExactCutScoreSpec)

/-- ITS FALSE NEIGHBOUR: 'it returns false'. Refute it at one input. -/
def fnExactCutScoreWrong : ChangeSpec := { name := "fnExactCutScore", fn := fun _ => fun
  | [d1, d2, d3] => { results := [.lit (.bool false)], args := [d1, d2, d3] }
  | _ => none }
def FnExactCutScoreWrongFalsely : Prop := fnExactCutScoreRow.holds Try.pinned (OpenSpec.ofChange fnExactCutScoreWrong)

/-- 'laws.FnExactValidItems': WHATEVER THE INPUT: true; the input reads as it did. -/
def fnExactValidItemsSpec : ChangeSpec := { name := "fnExactValidItems", fn := fun _ => fun
  | [d] => { results := [.lit (.bool true)], args := [d] }
  | _ => none }
def fnExactValidItemsRow : OpenClaim := { program := "ytljngogolpelaaa", sum := "80dd4db72d2bd3e4c35f35d04bf3c7cbb9dd814520d250ebf517cc909f48d95e", func := "loop.example/g00903/laws.FnExactValidItems", spec := "fnExactValidItems", recurses := true, apart := false }
def FnExactValidItemsSaid : Prop := fnExactValidItemsRow.holds Try.pinned (OpenSpec.ofChange fnExactValidItemsSpec)

/-- ITS FALSE NEIGHBOUR: 'it returns false'. Refute it at one input. -/
def fnExactValidItemsWrong : ChangeSpec := { name := "fnExactValidItems", fn := fun _ => fun
  | [d] => { results := [.lit (.bool false)], args := [d] }
  | _ => none }
def FnExactValidItemsWrongFalsely : Prop := fnExactValidItemsRow.holds Try.pinned (OpenSpec.ofChange fnExactValidItemsWrong)

/-- 'laws.FnExactLengthOfItems': WHATEVER THE INPUT: true; the input reads as it did. -/
def fnExactLengthOfItemsSpec : ChangeSpec := { name := "fnExactLengthOfItems", fn := fun _ => fun
  | [d] => { results := [.lit (.bool true)], args := [d] }
  | _ => none }
def fnExactLengthOfItemsRow : OpenClaim := { program := "ytljngogolpelaaa", sum := "80dd4db72d2bd3e4c35f35d04bf3c7cbb9dd814520d250ebf517cc909f48d95e", func := "loop.example/g00903/laws.FnExactLengthOfItems", spec := "fnExactLengthOfItems", recurses := true, apart := false }
def FnExactLengthOfItemsSaid : Prop := fnExactLengthOfItemsRow.holds Try.pinned (OpenSpec.ofChange fnExactLengthOfItemsSpec)

/-- ITS FALSE NEIGHBOUR: 'it returns false'. Refute it at one input. -/
def fnExactLengthOfItemsWrong : ChangeSpec := { name := "fnExactLengthOfItems", fn := fun _ => fun
  | [d] => { results := [.lit (.bool false)], args := [d] }
  | _ => none }
def FnExactLengthOfItemsWrongFalsely : Prop := fnExactLengthOfItemsRow.holds Try.pinned (OpenSpec.ofChange fnExactLengthOfItemsWrong)

/-- 'laws.FnExactPlayItems': WHATEVER THE INPUT: true; the input reads as it did. -/
def fnExactPlayItemsSpec : ChangeSpec := { name := "fnExactPlayItems", fn := fun _ => fun
  | [d1, d2] => { results := [.lit (.bool true)], args := [d1, d2] }
  | _ => none }
def fnExactPlayItemsRow : OpenClaim := { program := "ytljngogolpelaaa", sum := "80dd4db72d2bd3e4c35f35d04bf3c7cbb9dd814520d250ebf517cc909f48d95e", func := "loop.example/g00903/laws.FnExactPlayItems", spec := "fnExactPlayItems", recurses := true, apart := false }
def FnExactPlayItemsSaid : Prop := fnExactPlayItemsRow.holds Try.pinned (OpenSpec.ofChange fnExactPlayItemsSpec)

/-- ITS FALSE NEIGHBOUR: 'it returns false'. Refute it at one input. -/
def fnExactPlayItemsWrong : ChangeSpec := { name := "fnExactPlayItems", fn := fun _ => fun
  | [d1, d2] => { results := [.lit (.bool false)], args := [d1, d2] }
  | _ => none }
def FnExactPlayItemsWrongFalsely : Prop := fnExactPlayItemsRow.holds Try.pinned (OpenSpec.ofChange fnExactPlayItemsWrong)

/- THE SECOND FORM. 'bulk': how many values and letters a reading holds, each counted each time it is reached (what is shared counts as often as it is met; a slice's spare places count too). A statement '..UptoSaid' is the law's where the arguments, and the package variables that the reading takes, are together of bulk at most 1048576: NARROWER than '..Said'. Prove '..Said' where nothing that the law and all that it calls make is longer than what came in: it says more and counts as full. Else prove '..UptoSaid'. A law counts once. -/
mutual
def uptoBulk {H : Type} : DataW H → Nat
  | .lit (.string bytes) => bytes.length + 1
  | .lit _ => 1
  | .nil => 1
  | .ptr d => uptoBulk d + 1
  | .slice elems spare => uptoBulkAll elems + uptoBulkAll spare + 1
  | .agg parts => uptoBulkAll parts + 1
  | .iface _ d => uptoBulk d + 1
  | .map entries => uptoBulkEntries entries + 1
  | .held _ => 1
def uptoBulkAll {H : Type} : List (DataW H) → Nat
  | [] => 0
  | d :: r => uptoBulk d + uptoBulkAll r
def uptoBulkEntries {H : Type} : List (Lit × DataW H) → Nat
  | [] => 0
  | x :: r => uptoBulkEntry x + uptoBulkEntries r
def uptoBulkEntry {H : Type} : Lit × DataW H → Nat
  | (.string bytes, d) => bytes.length + uptoBulk d + 1
  | (_, d) => uptoBulk d + 1
 end
def uptoSmall : (H : Type) → List (DataW H) → Bool := fun _ ds => decide (uptoBulkAll ds ≤ 1048576)
def OpenSpec.upto (s : _root_.Go.ChangeSpec) : _root_.Go.OpenSpec := { _root_.Go.OpenSpec.ofChange s with cond := some uptoSmall }

/-- 'laws.FnExactSortNotes', WHERE WHAT IT READS IS OF BULK AT MOST 1048576: true; the input reads as it did. -/
def fnExactSortNotesUptoRow : OpenClaim := { program := "ytljngogolpelaaa", sum := "80dd4db72d2bd3e4c35f35d04bf3c7cbb9dd814520d250ebf517cc909f48d95e", func := "loop.example/g00903/laws.FnExactSortNotes", spec := "fnExactSortNotes", unfollowed := true, recurses := true, apart := false, narrowed := true }
def FnExactSortNotesUptoSaid : Prop := fnExactSortNotesUptoRow.holds Try.pinned (OpenSpec.upto fnExactSortNotesSpec)

/-- 'laws.FnExactShiftScore', WHERE WHAT IT READS IS OF BULK AT MOST 1048576: true; the input reads as it did. -/
def fnExactShiftScoreUptoRow : OpenClaim := { program := "ytljngogolpelaaa", sum := "80dd4db72d2bd3e4c35f35d04bf3c7cbb9dd814520d250ebf517cc909f48d95e", func := "loop.example/g00903/laws.FnExactShiftScore", spec := "fnExactShiftScore", unfollowed := true, recurses := true, apart := false, narrowed := true }
def FnExactShiftScoreUptoSaid : Prop := fnExactShiftScoreUptoRow.holds Try.pinned (OpenSpec.upto fnExactShiftScoreSpec)

/-- 'laws.FnExactInvertScore', WHERE WHAT IT READS IS OF BULK AT MOST 1048576: true; the input reads as it did. -/
def fnExactInvertScoreUptoRow : OpenClaim := { program := "ytljngogolpelaaa", sum := "80dd4db72d2bd3e4c35f35d04bf3c7cbb9dd814520d250ebf517cc909f48d95e", func := "loop.example/g00903/laws.FnExactInvertScore", spec := "fnExactInvertScore", unfollowed := true, recurses := true, apart := false, narrowed := true }
def FnExactInvertScoreUptoSaid : Prop := fnExactInvertScoreUptoRow.holds Try.pinned (OpenSpec.upto fnExactInvertScoreSpec)

/-- 'laws.FnExactTransposeScore', WHERE WHAT IT READS IS OF BULK AT MOST 1048576: true; the input reads as it did. -/
def fnExactTransposeScoreUptoRow : OpenClaim := { program := "ytljngogolpelaaa", sum := "80dd4db72d2bd3e4c35f35d04bf3c7cbb9dd814520d250ebf517cc909f48d95e", func := "loop.example/g00903/laws.FnExactTransposeScore", spec := "fnExactTransposeScore", unfollowed := true, recurses := true, apart := false, narrowed := true }
def FnExactTransposeScoreUptoSaid : Prop := fnExactTransposeScoreUptoRow.holds Try.pinned (OpenSpec.upto fnExactTransposeScoreSpec)

/-- 'laws.FnExactMergeScores', WHERE WHAT IT READS IS OF BULK AT MOST 1048576: true; the input reads as it did. -/
def fnExactMergeScoresUptoRow : OpenClaim := { program := "ytljngogolpelaaa", sum := "80dd4db72d2bd3e4c35f35d04bf3c7cbb9dd814520d250ebf517cc909f48d95e", func := "loop.example/g00903/laws.FnExactMergeScores", spec := "fnExactMergeScores", unfollowed := true, recurses := true, apart := false, narrowed := true }
def FnExactMergeScoresUptoSaid : Prop := fnExactMergeScoresUptoRow.holds Try.pinned (OpenSpec.upto fnExactMergeScoresSpec)

/-- 'laws.FnExactStretchScore', WHERE WHAT IT READS IS OF BULK AT MOST 1048576: true; the input reads as it did. -/
def fnExactStretchScoreUptoRow : OpenClaim := { program := "ytljngogolpelaaa", sum := "80dd4db72d2bd3e4c35f35d04bf3c7cbb9dd814520d250ebf517cc909f48d95e", func := "loop.example/g00903/laws.FnExactStretchScore", spec := "fnExactStretchScore", unfollowed := true, recurses := true, apart := false, narrowed := true }
def FnExactStretchScoreUptoSaid : Prop := fnExactStretchScoreUptoRow.holds Try.pinned (OpenSpec.upto fnExactStretchScoreSpec)

/-- 'laws.FnExactQuantizeScore', WHERE WHAT IT READS IS OF BULK AT MOST 1048576: true; the input reads as it did. -/
def fnExactQuantizeScoreUptoRow : OpenClaim := { program := "ytljngogolpelaaa", sum := "80dd4db72d2bd3e4c35f35d04bf3c7cbb9dd814520d250ebf517cc909f48d95e", func := "loop.example/g00903/laws.FnExactQuantizeScore", spec := "fnExactQuantizeScore", unfollowed := true, recurses := true, apart := false, narrowed := true }
def FnExactQuantizeScoreUptoSaid : Prop := fnExactQuantizeScoreUptoRow.holds Try.pinned (OpenSpec.upto fnExactQuantizeScoreSpec)

/-- 'laws.FnExactReverseScore', WHERE WHAT IT READS IS OF BULK AT MOST 1048576: true; the input reads as it did. -/
def fnExactReverseScoreUptoRow : OpenClaim := { program := "ytljngogolpelaaa", sum := "80dd4db72d2bd3e4c35f35d04bf3c7cbb9dd814520d250ebf517cc909f48d95e", func := "loop.example/g00903/laws.FnExactReverseScore", spec := "fnExactReverseScore", unfollowed := true, recurses := true, apart := false, narrowed := true }
def FnExactReverseScoreUptoSaid : Prop := fnExactReverseScoreUptoRow.holds Try.pinned (OpenSpec.upto fnExactReverseScoreSpec)

/-- 'laws.FnExactCutScore', WHERE WHAT IT READS IS OF BULK AT MOST 1048576: true; the input reads as it did. -/
def fnExactCutScoreUptoRow : OpenClaim := { program := "ytljngogolpelaaa", sum := "80dd4db72d2bd3e4c35f35d04bf3c7cbb9dd814520d250ebf517cc909f48d95e", func := "loop.example/g00903/laws.FnExactCutScore", spec := "fnExactCutScore", unfollowed := true, recurses := true, apart := false, narrowed := true }
def FnExactCutScoreUptoSaid : Prop := fnExactCutScoreUptoRow.holds Try.pinned (OpenSpec.upto fnExactCutScoreSpec)

/-- 'laws.FnExactValidItems', WHERE WHAT IT READS IS OF BULK AT MOST 1048576: true; the input reads as it did. -/
def fnExactValidItemsUptoRow : OpenClaim := { program := "ytljngogolpelaaa", sum := "80dd4db72d2bd3e4c35f35d04bf3c7cbb9dd814520d250ebf517cc909f48d95e", func := "loop.example/g00903/laws.FnExactValidItems", spec := "fnExactValidItems", recurses := true, apart := false, narrowed := true }
def FnExactValidItemsUptoSaid : Prop := fnExactValidItemsUptoRow.holds Try.pinned (OpenSpec.upto fnExactValidItemsSpec)

/-- 'laws.FnExactLengthOfItems', WHERE WHAT IT READS IS OF BULK AT MOST 1048576: true; the input reads as it did. -/
def fnExactLengthOfItemsUptoRow : OpenClaim := { program := "ytljngogolpelaaa", sum := "80dd4db72d2bd3e4c35f35d04bf3c7cbb9dd814520d250ebf517cc909f48d95e", func := "loop.example/g00903/laws.FnExactLengthOfItems", spec := "fnExactLengthOfItems", recurses := true, apart := false, narrowed := true }
def FnExactLengthOfItemsUptoSaid : Prop := fnExactLengthOfItemsUptoRow.holds Try.pinned (OpenSpec.upto fnExactLengthOfItemsSpec)

/-- 'laws.FnExactPlayItems', WHERE WHAT IT READS IS OF BULK AT MOST 1048576: true; the input reads as it did. -/
def fnExactPlayItemsUptoRow : OpenClaim := { program := "ytljngogolpelaaa", sum := "80dd4db72d2bd3e4c35f35d04bf3c7cbb9dd814520d250ebf517cc909f48d95e", func := "loop.example/g00903/laws.FnExactPlayItems", spec := "fnExactPlayItems", recurses := true, apart := false, narrowed := true }
def FnExactPlayItemsUptoSaid : Prop := fnExactPlayItemsUptoRow.holds Try.pinned (OpenSpec.upto fnExactPlayItemsSpec)

end Rows
end Go.Proofs.Ytljngogolpelaaa
