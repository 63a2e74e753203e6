/-
  No cell of these rows narrows 'for every input' (looked for: loops, veiled, ifaces, maps, wideKeys, modest, calm, conditions, laid).
  DERIVED. THE GIVEN ROWS OF THIS SEAT. 12 by the template 'for every input the law returns true; each argument reads behind the call as it read before'; 0 by the template 'total and deterministic' (their statements: YtkmpkiiofochnaaTotals.lean).
  GIVEN WITH THE SEED: the statements are not yours to turn. If you find one false, say at which input.
  Laid BY PROGRAM, IN A SANDBOX (cutbox-rows.mjs): the forced cells as the released guide's own fill.sh prints them over the translation f2e0c647bf9a72c9… (all of the seat's roots in one cut). By AI agents, Wed Nov 11 2026. No macro, syntax, notation, axiom, sorry.
-/
import Derived.Test.YtkmpkiiofochnaaChecked
import GoSem.Claim
import GoSem.ClaimJoined
import GoSem.ClaimMapViews
import Derived.JoinedTies
import Derived.KernelRfl
namespace Go.Proofs.Ytkmpkiiofochnaa
/- THE CELL 'sum', in the pinned program and in every row, IS THE sha256 OF THE DUMP (.gsa) THAT YtkmpkiiofochnaaProg.lean LOADS. Nothing in Lean hashes anything: it is a label: what it is worth is what the hold of that sum in a sandbox is worth. -/
noncomputable def Try.pinned : Pinned := { name := "ytkmpkiiofochnaa", sum := "f2e0c647bf9a72c9949a73f6ced34b4733a08f671a99a63401591d16e4bef05f", checked := Try.checked }
namespace Rows
def none {H : Type} : Left H := { results := [], args := [] }

/-- 'laws.FnExactSameTempos': WHATEVER THE INPUT: true; the input reads as it did. -/
def fnExactSameTemposSpec : ChangeSpec := { name := "fnExactSameTempos", fn := fun _ => fun
  | [d1, d2] => { results := [.lit (.bool true)], args := [d1, d2] }
  | _ => none }
def fnExactSameTemposRow : OpenClaim := { program := "ytkmpkiiofochnaa", sum := "f2e0c647bf9a72c9949a73f6ced34b4733a08f671a99a63401591d16e4bef05f", func := "loop.example/g00903/laws.FnExactSameTempos", spec := "fnExactSameTempos", apart := false }
def FnExactSameTemposSaid : Prop := fnExactSameTemposRow.holds Try.pinned (OpenSpec.ofChange fnExactSameTemposSpec)

/-- ITS FALSE NEIGHBOUR: 'it returns false'. Refute it at one input. -/
def fnExactSameTemposWrong : ChangeSpec := { name := "fnExactSameTempos", fn := fun _ => fun
  | [d1, d2] => { results := [.lit (.bool false)], args := [d1, d2] }
  | _ => none }
def FnExactSameTemposWrongFalsely : Prop := fnExactSameTemposRow.holds Try.pinned (OpenSpec.ofChange fnExactSameTemposWrong)

/-- 'laws.FnExactSameScore': WHATEVER THE INPUT: true; the input reads as it did. -/
def fnExactSameScoreSpec : ChangeSpec := { name := "fnExactSameScore", fn := fun _ => fun
  | [d1, d2] => { results := [.lit (.bool true)], args := [d1, d2] }
  | _ => none }
def fnExactSameScoreRow : OpenClaim := { program := "ytkmpkiiofochnaa", sum := "f2e0c647bf9a72c9949a73f6ced34b4733a08f671a99a63401591d16e4bef05f", func := "loop.example/g00903/laws.FnExactSameScore", spec := "fnExactSameScore", apart := false }
def FnExactSameScoreSaid : Prop := fnExactSameScoreRow.holds Try.pinned (OpenSpec.ofChange fnExactSameScoreSpec)

/-- ITS FALSE NEIGHBOUR: 'it returns false'. Refute it at one input. -/
def fnExactSameScoreWrong : ChangeSpec := { name := "fnExactSameScore", fn := fun _ => fun
  | [d1, d2] => { results := [.lit (.bool false)], args := [d1, d2] }
  | _ => none }
def FnExactSameScoreWrongFalsely : Prop := fnExactSameScoreRow.holds Try.pinned (OpenSpec.ofChange fnExactSameScoreWrong)

/-- 'laws.FnExactValidNote': WHATEVER THE INPUT: true; the input reads as it did. -/
def fnExactValidNoteSpec : ChangeSpec := { name := "fnExactValidNote", fn := fun _ => fun
  | [d] => { results := [.lit (.bool true)], args := [d] }
  | _ => none }
def fnExactValidNoteRow : OpenClaim := { program := "ytkmpkiiofochnaa", sum := "f2e0c647bf9a72c9949a73f6ced34b4733a08f671a99a63401591d16e4bef05f", func := "loop.example/g00903/laws.FnExactValidNote", spec := "fnExactValidNote", apart := false }
def FnExactValidNoteSaid : Prop := fnExactValidNoteRow.holds Try.pinned (OpenSpec.ofChange fnExactValidNoteSpec)

/-- ITS FALSE NEIGHBOUR: 'it returns false'. Refute it at one input. -/
def fnExactValidNoteWrong : ChangeSpec := { name := "fnExactValidNote", fn := fun _ => fun
  | [d] => { results := [.lit (.bool false)], args := [d] }
  | _ => none }
def FnExactValidNoteWrongFalsely : Prop := fnExactValidNoteRow.holds Try.pinned (OpenSpec.ofChange fnExactValidNoteWrong)

/-- 'laws.FnExactSameItems': WHATEVER THE INPUT: true; the input reads as it did. -/
def fnExactSameItemsSpec : ChangeSpec := { name := "fnExactSameItems", fn := fun _ => fun
  | [d1, d2] => { results := [.lit (.bool true)], args := [d1, d2] }
  | _ => none }
def fnExactSameItemsRow : OpenClaim := { program := "ytkmpkiiofochnaa", sum := "f2e0c647bf9a72c9949a73f6ced34b4733a08f671a99a63401591d16e4bef05f", func := "loop.example/g00903/laws.FnExactSameItems", spec := "fnExactSameItems", unfollowed := true, recurses := true, apart := false }
def FnExactSameItemsSaid : Prop := fnExactSameItemsRow.holds Try.pinned (OpenSpec.ofChange fnExactSameItemsSpec)

/-- ITS FALSE NEIGHBOUR: 'it returns false'. Refute it at one input. -/
def fnExactSameItemsWrong : ChangeSpec := { name := "fnExactSameItems", fn := fun _ => fun
  | [d1, d2] => { results := [.lit (.bool false)], args := [d1, d2] }
  | _ => none }
def FnExactSameItemsWrongFalsely : Prop := fnExactSameItemsRow.holds Try.pinned (OpenSpec.ofChange fnExactSameItemsWrong)

/-- 'laws.FnExactValidScore': WHATEVER THE INPUT: true; the input reads as it did. -/
def fnExactValidScoreSpec : ChangeSpec := { name := "fnExactValidScore", fn := fun _ => fun
  | [d] => { results := [.lit (.bool true)], args := [d] }
  | _ => none }
def fnExactValidScoreRow : OpenClaim := { program := "ytkmpkiiofochnaa", sum := "f2e0c647bf9a72c9949a73f6ced34b4733a08f671a99a63401591d16e4bef05f", func := "loop.example/g00903/laws.FnExactValidScore", spec := "fnExactValidScore", apart := false }
def FnExactValidScoreSaid : Prop := fnExactValidScoreRow.holds Try.pinned (OpenSpec.ofChange fnExactValidScoreSpec)

/-- ITS FALSE NEIGHBOUR: 'it returns false'. Refute it at one input. -/
def fnExactValidScoreWrong : ChangeSpec := { name := "fnExactValidScore", fn := fun _ => fun
  | [d] => { results := [.lit (.bool false)], args := [d] }
  | _ => none }
def FnExactValidScoreWrongFalsely : Prop := fnExactValidScoreRow.holds Try.pinned (OpenSpec.ofChange fnExactValidScoreWrong)

/-- 'laws.FnExactStepsOfTuning': WHATEVER THE INPUT: true; the input reads as it did. -/
def fnExactStepsOfTuningSpec : ChangeSpec := { name := "fnExactStepsOfTuning", fn := fun _ => fun
  | [d] => { results := [.lit (.bool true)], args := [d] }
  | _ => none }
def fnExactStepsOfTuningRow : OpenClaim := { program := "ytkmpkiiofochnaa", sum := "f2e0c647bf9a72c9949a73f6ced34b4733a08f671a99a63401591d16e4bef05f", func := "loop.example/g00903/laws.FnExactStepsOfTuning", spec := "fnExactStepsOfTuning", apart := false }
def FnExactStepsOfTuningSaid : Prop := fnExactStepsOfTuningRow.holds Try.pinned (OpenSpec.ofChange fnExactStepsOfTuningSpec)

/-- ITS FALSE NEIGHBOUR: 'it returns false'. Refute it at one input. -/
def fnExactStepsOfTuningWrong : ChangeSpec := { name := "fnExactStepsOfTuning", fn := fun _ => fun
  | [d] => { results := [.lit (.bool false)], args := [d] }
  | _ => none }
def FnExactStepsOfTuningWrongFalsely : Prop := fnExactStepsOfTuningRow.holds Try.pinned (OpenSpec.ofChange fnExactStepsOfTuningWrong)

/-- 'laws.FnExactRatioOfKeys': WHATEVER THE INPUT: true; the input reads as it did. -/
def fnExactRatioOfKeysSpec : ChangeSpec := { name := "fnExactRatioOfKeys", fn := fun _ => fun
  | [d1, d2, d3] => { results := [.lit (.bool true)], args := [d1, d2, d3] }
  | _ => none }
def fnExactRatioOfKeysRow : OpenClaim := { program := "ytkmpkiiofochnaa", sum := "f2e0c647bf9a72c9949a73f6ced34b4733a08f671a99a63401591d16e4bef05f", func := "loop.example/g00903/laws.FnExactRatioOfKeys", spec := "fnExactRatioOfKeys", apart := false }
def FnExactRatioOfKeysSaid : Prop := fnExactRatioOfKeysRow.holds Try.pinned (OpenSpec.ofChange fnExactRatioOfKeysSpec)

/-- ITS FALSE NEIGHBOUR: 'it returns false'. Refute it at one input. -/
def fnExactRatioOfKeysWrong : ChangeSpec := { name := "fnExactRatioOfKeys", fn := fun _ => fun
  | [d1, d2, d3] => { results := [.lit (.bool false)], args := [d1, d2, d3] }
  | _ => none }
def FnExactRatioOfKeysWrongFalsely : Prop := fnExactRatioOfKeysRow.holds Try.pinned (OpenSpec.ofChange fnExactRatioOfKeysWrong)

/-- 'laws.FnExactValidTempos': WHATEVER THE INPUT: true; the input reads as it did. -/
def fnExactValidTemposSpec : ChangeSpec := { name := "fnExactValidTempos", fn := fun _ => fun
  | [d] => { results := [.lit (.bool true)], args := [d] }
  | _ => none }
def fnExactValidTemposRow : OpenClaim := { program := "ytkmpkiiofochnaa", sum := "f2e0c647bf9a72c9949a73f6ced34b4733a08f671a99a63401591d16e4bef05f", func := "loop.example/g00903/laws.FnExactValidTempos", spec := "fnExactValidTempos", apart := false }
def FnExactValidTemposSaid : Prop := fnExactValidTemposRow.holds Try.pinned (OpenSpec.ofChange fnExactValidTemposSpec)

/-- ITS FALSE NEIGHBOUR: 'it returns false'. Refute it at one input. -/
def fnExactValidTemposWrong : ChangeSpec := { name := "fnExactValidTempos", fn := fun _ => fun
  | [d] => { results := [.lit (.bool false)], args := [d] }
  | _ => none }
def FnExactValidTemposWrongFalsely : Prop := fnExactValidTemposRow.holds Try.pinned (OpenSpec.ofChange fnExactValidTemposWrong)

/-- 'laws.FnExactModeOf': WHATEVER THE INPUT: true; the input reads as it did. -/
def fnExactModeOfSpec : ChangeSpec := { name := "fnExactModeOf", fn := fun _ => fun
  | [d1, d2] => { results := [.lit (.bool true)], args := [d1, d2] }
  | _ => none }
def fnExactModeOfRow : OpenClaim := { program := "ytkmpkiiofochnaa", sum := "f2e0c647bf9a72c9949a73f6ced34b4733a08f671a99a63401591d16e4bef05f", func := "loop.example/g00903/laws.FnExactModeOf", spec := "fnExactModeOf", apart := false }
def FnExactModeOfSaid : Prop := fnExactModeOfRow.holds Try.pinned (OpenSpec.ofChange fnExactModeOfSpec)

/-- ITS FALSE NEIGHBOUR: 'it returns false'. Refute it at one input. -/
def fnExactModeOfWrong : ChangeSpec := { name := "fnExactModeOf", fn := fun _ => fun
  | [d1, d2] => { results := [.lit (.bool false)], args := [d1, d2] }
  | _ => none }
def FnExactModeOfWrongFalsely : Prop := fnExactModeOfRow.holds Try.pinned (OpenSpec.ofChange fnExactModeOfWrong)

/-- 'laws.FnExactEndOfScore': WHATEVER THE INPUT: true; the input reads as it did. -/
def fnExactEndOfScoreSpec : ChangeSpec := { name := "fnExactEndOfScore", fn := fun _ => fun
  | [d] => { results := [.lit (.bool true)], args := [d] }
  | _ => none }
def fnExactEndOfScoreRow : OpenClaim := { program := "ytkmpkiiofochnaa", sum := "f2e0c647bf9a72c9949a73f6ced34b4733a08f671a99a63401591d16e4bef05f", func := "loop.example/g00903/laws.FnExactEndOfScore", spec := "fnExactEndOfScore", apart := false }
def FnExactEndOfScoreSaid : Prop := fnExactEndOfScoreRow.holds Try.pinned (OpenSpec.ofChange fnExactEndOfScoreSpec)

/-- ITS FALSE NEIGHBOUR: 'it returns false'. Refute it at one input. -/
def fnExactEndOfScoreWrong : ChangeSpec := { name := "fnExactEndOfScore", fn := fun _ => fun
  | [d] => { results := [.lit (.bool false)], args := [d] }
  | _ => none }
def FnExactEndOfScoreWrongFalsely : Prop := fnExactEndOfScoreRow.holds Try.pinned (OpenSpec.ofChange fnExactEndOfScoreWrong)

/-- 'laws.FnExactNearestKey': WHATEVER THE INPUT: true; the input reads as it did. -/
def fnExactNearestKeySpec : ChangeSpec := { name := "fnExactNearestKey", fn := fun _ => fun
  | [d1, d2] => { results := [.lit (.bool true)], args := [d1, d2] }
  | _ => none }
def fnExactNearestKeyRow : OpenClaim := { program := "ytkmpkiiofochnaa", sum := "f2e0c647bf9a72c9949a73f6ced34b4733a08f671a99a63401591d16e4bef05f", func := "loop.example/g00903/laws.FnExactNearestKey", spec := "fnExactNearestKey", apart := false }
def FnExactNearestKeySaid : Prop := fnExactNearestKeyRow.holds Try.pinned (OpenSpec.ofChange fnExactNearestKeySpec)

/-- ITS FALSE NEIGHBOUR: 'it returns false'. Refute it at one input. -/
def fnExactNearestKeyWrong : ChangeSpec := { name := "fnExactNearestKey", fn := fun _ => fun
  | [d1, d2] => { results := [.lit (.bool false)], args := [d1, d2] }
  | _ => none }
def FnExactNearestKeyWrongFalsely : Prop := fnExactNearestKeyRow.holds Try.pinned (OpenSpec.ofChange fnExactNearestKeyWrong)

/-- 'laws.FnExactTempoAt': WHATEVER THE INPUT: true; the input reads as it did. -/
def fnExactTempoAtSpec : ChangeSpec := { name := "fnExactTempoAt", fn := fun _ => fun
  | [d1, d2] => { results := [.lit (.bool true)], args := [d1, d2] }
  | _ => none }
def fnExactTempoAtRow : OpenClaim := { program := "ytkmpkiiofochnaa", sum := "f2e0c647bf9a72c9949a73f6ced34b4733a08f671a99a63401591d16e4bef05f", func := "loop.example/g00903/laws.FnExactTempoAt", spec := "fnExactTempoAt", apart := false }
def FnExactTempoAtSaid : Prop := fnExactTempoAtRow.holds Try.pinned (OpenSpec.ofChange fnExactTempoAtSpec)

/-- ITS FALSE NEIGHBOUR: 'it returns false'. Refute it at one input. -/
def fnExactTempoAtWrong : ChangeSpec := { name := "fnExactTempoAt", fn := fun _ => fun
  | [d1, d2] => { results := [.lit (.bool false)], args := [d1, d2] }
  | _ => none }
def FnExactTempoAtWrongFalsely : Prop := fnExactTempoAtRow.holds Try.pinned (OpenSpec.ofChange fnExactTempoAtWrong)

/- THE SECOND FORM. 'bulk': how many values and letters a reading holds, each counted each time it is reached (what is shared counts as often as it is met; a slice's spare places count too). A statement '..UptoSaid' is the law's where the arguments, and the package variables that the reading takes, are together of bulk at most 1048576: NARROWER than '..Said'. Prove '..Said' where nothing that the law and all that it calls make is longer than what came in: it says more and counts as full. Else prove '..UptoSaid'. A law counts once. -/
mutual
def uptoBulk {H : Type} : DataW H → Nat
  | .lit (.string bytes) => bytes.length + 1
  | .lit _ => 1
  | .nil => 1
  | .ptr d => uptoBulk d + 1
  | .slice elems spare => uptoBulkAll elems + uptoBulkAll spare + 1
  | .agg parts => uptoBulkAll parts + 1
  | .iface _ d => uptoBulk d + 1
  | .map entries => uptoBulkEntries entries + 1
  | .held _ => 1
def uptoBulkAll {H : Type} : List (DataW H) → Nat
  | [] => 0
  | d :: r => uptoBulk d + uptoBulkAll r
def uptoBulkEntries {H : Type} : List (Lit × DataW H) → Nat
  | [] => 0
  | x :: r => uptoBulkEntry x + uptoBulkEntries r
def uptoBulkEntry {H : Type} : Lit × DataW H → Nat
  | (.string bytes, d) => bytes.length + uptoBulk d + 1
  | (_, d) => uptoBulk d + 1
 end
def uptoSmall : (H : Type) → List (DataW H) → Bool := fun _ ds => decide (uptoBulkAll ds ≤ 1048576)
def OpenSpec.upto (s : _root_.Go.ChangeSpec) : _root_.Go.OpenSpec := { _root_.Go.OpenSpec.ofChange s with cond := some uptoSmall }

/-- 'laws.FnExactSameTempos', WHERE WHAT IT READS IS OF BULK AT MOST 1048576: true; the input reads as it did. -/
def fnExactSameTemposUptoRow : OpenClaim := { program := "ytkmpkiiofochnaa", sum := "f2e0c647bf9a72c9949a73f6ced34b4733a08f671a99a63401591d16e4bef05f", func := "loop.example/g00903/laws.FnExactSameTempos", spec := "fnExactSameTempos", apart := false, narrowed := true }
def FnExactSameTemposUptoSaid : Prop := fnExactSameTemposUptoRow.holds Try.pinned (OpenSpec.upto fnExactSameTemposSpec)

/-- 'laws.FnExactSameScore', WHERE WHAT IT READS IS OF BULK AT MOST 1048576: true; the input reads as it did. -/
def fnExactSameScoreUptoRow : OpenClaim := { program := "ytkmpkiiofochnaa", sum := "f2e0c647bf9a72c9949a73f6ced34b4733a08f671a99a63401591d16e4bef05f", func := "loop.example/g00903/laws.FnExactSameScore", spec := "fnExactSameScore", apart := false, narrowed := true }
def FnExactSameScoreUptoSaid : Prop := fnExactSameScoreUptoRow.holds Try.pinned (OpenSpec.upto fnExactSameScoreSpec)

/-- 'laws.FnExactValidNote', WHERE WHAT IT READS IS OF BULK AT MOST 1048576: true; the input reads as it did. -/
def fnExactValidNoteUptoRow : OpenClaim := { program := "ytkmpkiiofochnaa", sum := "f2e0c647bf9a72c9949a73f6ced34b4733a08f671a99a63401591d16e4bef05f", func := "loop.example/g00903/laws.FnExactValidNote", spec := "fnExactValidNote", apart := false, narrowed := true }
def FnExactValidNoteUptoSaid : Prop := fnExactValidNoteUptoRow.holds Try.pinned (OpenSpec.upto fnExactValidNoteSpec)

/-- 'laws.FnExactSameItems', WHERE WHAT IT READS IS OF BULK AT MOST 1048576: true; the input reads as it did. -/
def fnExactSameItemsUptoRow : OpenClaim := { program := "ytkmpkiiofochnaa", sum := "f2e0c647bf9a72c9949a73f6ced34b4733a08f671a99a63401591d16e4bef05f", func := "loop.example/g00903/laws.FnExactSameItems", spec := "fnExactSameItems", unfollowed := true, recurses := true, apart := false, narrowed := true }
def FnExactSameItemsUptoSaid : Prop := fnExactSameItemsUptoRow.holds Try.pinned (OpenSpec.upto fnExactSameItemsSpec)

/-- 'laws.FnExactValidScore', WHERE WHAT IT READS IS OF BULK AT MOST 1048576: true; the input reads as it did. -/
def fnExactValidScoreUptoRow : OpenClaim := { program := "ytkmpkiiofochnaa", sum := "f2e0c647bf9a72c9949a73f6ced34b4733a08f671a99a63401591d16e4bef05f", func := "loop.example/g00903/laws.FnExactValidScore", spec := "fnExactValidScore", apart := false, narrowed := true }
def FnExactValidScoreUptoSaid : Prop := fnExactValidScoreUptoRow.holds Try.pinned (OpenSpec.upto fnExactValidScoreSpec)

/-- 'laws.FnExactStepsOfTuning', WHERE WHAT IT READS IS OF BULK AT MOST 1048576: true; the input reads as it did. -/
def fnExactStepsOfTuningUptoRow : OpenClaim := { program := "ytkmpkiiofochnaa", sum := "f2e0c647bf9a72c9949a73f6ced34b4733a08f671a99a63401591d16e4bef05f", func := "loop.example/g00903/laws.FnExactStepsOfTuning", spec := "fnExactStepsOfTuning", apart := false, narrowed := true }
def FnExactStepsOfTuningUptoSaid : Prop := fnExactStepsOfTuningUptoRow.holds Try.pinned (OpenSpec.upto fnExactStepsOfTuningSpec)

/-- 'laws.FnExactRatioOfKeys', WHERE WHAT IT READS IS OF BULK AT MOST 1048576: true; the input reads as it did. -/
def fnExactRatioOfKeysUptoRow : OpenClaim := { program := "ytkmpkiiofochnaa", sum := "f2e0c647bf9a72c9949a73f6ced34b4733a08f671a99a63401591d16e4bef05f", func := "loop.example/g00903/laws.FnExactRatioOfKeys", spec := "fnExactRatioOfKeys", apart := false, narrowed := true }
def FnExactRatioOfKeysUptoSaid : Prop := fnExactRatioOfKeysUptoRow.holds Try.pinned (OpenSpec.upto fnExactRatioOfKeysSpec)

/-- 'laws.FnExactValidTempos', WHERE WHAT IT READS IS OF BULK AT MOST 1048576: true; the input reads as it did. -/
def fnExactValidTemposUptoRow : OpenClaim := { program := "ytkmpkiiofochnaa", sum := "f2e0c647bf9a72c9949a73f6ced34b4733a08f671a99a63401591d16e4bef05f", func := "loop.example/g00903/laws.FnExactValidTempos", spec := "fnExactValidTempos", apart := false, narrowed := true }
def FnExactValidTemposUptoSaid : Prop := fnExactValidTemposUptoRow.holds Try.pinned (OpenSpec.upto fnExactValidTemposSpec)

/-- 'laws.FnExactModeOf', WHERE WHAT IT READS IS OF BULK AT MOST 1048576: true; the input reads as it did. -/
def fnExactModeOfUptoRow : OpenClaim := { program := "ytkmpkiiofochnaa", sum := "f2e0c647bf9a72c9949a73f6ced34b4733a08f671a99a63401591d16e4bef05f", func := "loop.example/g00903/laws.FnExactModeOf", spec := "fnExactModeOf", apart := false, narrowed := true }
def FnExactModeOfUptoSaid : Prop := fnExactModeOfUptoRow.holds Try.pinned (OpenSpec.upto fnExactModeOfSpec)

/-- 'laws.FnExactEndOfScore', WHERE WHAT IT READS IS OF BULK AT MOST 1048576: true; the input reads as it did. -/
def fnExactEndOfScoreUptoRow : OpenClaim := { program := "ytkmpkiiofochnaa", sum := "f2e0c647bf9a72c9949a73f6ced34b4733a08f671a99a63401591d16e4bef05f", func := "loop.example/g00903/laws.FnExactEndOfScore", spec := "fnExactEndOfScore", apart := false, narrowed := true }
def FnExactEndOfScoreUptoSaid : Prop := fnExactEndOfScoreUptoRow.holds Try.pinned (OpenSpec.upto fnExactEndOfScoreSpec)

/-- 'laws.FnExactNearestKey', WHERE WHAT IT READS IS OF BULK AT MOST 1048576: true; the input reads as it did. -/
def fnExactNearestKeyUptoRow : OpenClaim := { program := "ytkmpkiiofochnaa", sum := "f2e0c647bf9a72c9949a73f6ced34b4733a08f671a99a63401591d16e4bef05f", func := "loop.example/g00903/laws.FnExactNearestKey", spec := "fnExactNearestKey", apart := false, narrowed := true }
def FnExactNearestKeyUptoSaid : Prop := fnExactNearestKeyUptoRow.holds Try.pinned (OpenSpec.upto fnExactNearestKeySpec)

/-- 'laws.FnExactTempoAt', WHERE WHAT IT READS IS OF BULK AT MOST 1048576: true; the input reads as it did. -/
def fnExactTempoAtUptoRow : OpenClaim := { program := "ytkmpkiiofochnaa", sum := "f2e0c647bf9a72c9949a73f6ced34b4733a08f671a99a63401591d16e4bef05f", func := "loop.example/g00903/laws.FnExactTempoAt", spec := "fnExactTempoAt", apart := false, narrowed := true }
def FnExactTempoAtUptoSaid : Prop := fnExactTempoAtUptoRow.holds Try.pinned (OpenSpec.upto fnExactTempoAtSpec)

end Rows
end Go.Proofs.Ytkmpkiiofochnaa
