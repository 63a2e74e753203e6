/-
  No cell of these rows narrows 'for every input' (looked for: loops, veiled, ifaces, maps, wideKeys, modest, calm, conditions, laid).
  DERIVED. THE GIVEN ROWS OF THIS SEAT. 12 by the template 'for every input the law returns true; each argument reads behind the call as it read before'; 0 by the template 'total and deterministic' (their statements: YtapfocpnpmagfaaTotals.lean).
  GIVEN WITH THE SEED: the statements are not yours to turn. If you find one false, say at which input.
  Laid BY PROGRAM, IN A SANDBOX (cutbox-rows.mjs): the forced cells as the released guide's own fill.sh prints them over the translation 7caf0eb8a60cf37f… (all of the seat's roots in one cut). By AI agents, Wed Nov 11 2026. No macro, syntax, notation, axiom, sorry.
-/
import Derived.Test.YtapfocpnpmagfaaChecked
import GoSem.Claim
import GoSem.ClaimJoined
import GoSem.ClaimMapViews
import Derived.JoinedTies
import Derived.KernelRfl
namespace Go.Proofs.Ytapfocpnpmagfaa
/- THE CELL 'sum', in the pinned program and in every row, IS THE sha256 OF THE DUMP (.gsa) THAT YtapfocpnpmagfaaProg.lean LOADS. Nothing in Lean hashes anything: it is a label: what it is worth is what the hold of that sum in a sandbox is worth. -/
noncomputable def Try.pinned : Pinned := { name := "ytapfocpnpmagfaa", sum := "7caf0eb8a60cf37f4916da02ff8685bc41b05ebe8197c1c294462c6c95001a04", checked := Try.checked }
namespace Rows
def none {H : Type} : Left H := { results := [], args := [] }

/-- 'laws.FnExactSameItems': WHATEVER THE INPUT: true; the input reads as it did. -/
def fnExactSameItemsSpec : ChangeSpec := { name := "fnExactSameItems", fn := fun _ => fun
  | [d1, d2] => { results := [.lit (.bool true)], args := [d1, d2] }
  | _ => none }
def fnExactSameItemsRow : OpenClaim := { program := "ytapfocpnpmagfaa", sum := "7caf0eb8a60cf37f4916da02ff8685bc41b05ebe8197c1c294462c6c95001a04", func := "loop.example/g00903/laws.FnExactSameItems", spec := "fnExactSameItems", unfollowed := true, recurses := true, apart := false }
def FnExactSameItemsSaid : Prop := fnExactSameItemsRow.holds Try.pinned (OpenSpec.ofChange fnExactSameItemsSpec)

/-- ITS FALSE NEIGHBOUR: 'it returns false'. Refute it at one input. -/
def fnExactSameItemsWrong : ChangeSpec := { name := "fnExactSameItems", fn := fun _ => fun
  | [d1, d2] => { results := [.lit (.bool false)], args := [d1, d2] }
  | _ => none }
def FnExactSameItemsWrongFalsely : Prop := fnExactSameItemsRow.holds Try.pinned (OpenSpec.ofChange fnExactSameItemsWrong)

/-- 'laws.FnExactStepsOfTuning': WHATEVER THE INPUT: true; the input reads as it did. -/
def fnExactStepsOfTuningSpec : ChangeSpec := { name := "fnExactStepsOfTuning", fn := fun _ => fun
  | [d] => { results := [.lit (.bool true)], args := [d] }
  | _ => none }
def fnExactStepsOfTuningRow : OpenClaim := { program := "ytapfocpnpmagfaa", sum := "7caf0eb8a60cf37f4916da02ff8685bc41b05ebe8197c1c294462c6c95001a04", func := "loop.example/g00903/laws.FnExactStepsOfTuning", spec := "fnExactStepsOfTuning", apart := false }
def FnExactStepsOfTuningSaid : Prop := fnExactStepsOfTuningRow.holds Try.pinned (OpenSpec.ofChange fnExactStepsOfTuningSpec)

/-- ITS FALSE NEIGHBOUR: 'it returns false'. Refute it at one input. -/
def fnExactStepsOfTuningWrong : ChangeSpec := { name := "fnExactStepsOfTuning", fn := fun _ => fun
  | [d] => { results := [.lit (.bool false)], args := [d] }
  | _ => none }
def FnExactStepsOfTuningWrongFalsely : Prop := fnExactStepsOfTuningRow.holds Try.pinned (OpenSpec.ofChange fnExactStepsOfTuningWrong)

/-- 'laws.FnExactValidTempos': WHATEVER THE INPUT: true; the input reads as it did. -/
def fnExactValidTemposSpec : ChangeSpec := { name := "fnExactValidTempos", fn := fun _ => fun
  | [d] => { results := [.lit (.bool true)], args := [d] }
  | _ => none }
def fnExactValidTemposRow : OpenClaim := { program := "ytapfocpnpmagfaa", sum := "7caf0eb8a60cf37f4916da02ff8685bc41b05ebe8197c1c294462c6c95001a04", func := "loop.example/g00903/laws.FnExactValidTempos", spec := "fnExactValidTempos", apart := false }
def FnExactValidTemposSaid : Prop := fnExactValidTemposRow.holds Try.pinned (OpenSpec.ofChange fnExactValidTemposSpec)

/-- ITS FALSE NEIGHBOUR: 'it returns false'. Refute it at one input. -/
def fnExactValidTemposWrong : ChangeSpec := { name := "fnExactValidTempos", fn := fun _ => fun
  | [d] => { results := [.lit (.bool false)], args := [d] }
  | _ => none }
def FnExactValidTemposWrongFalsely : Prop := fnExactValidTemposRow.holds Try.pinned (OpenSpec.ofChange fnExactValidTemposWrong)

/-- 'laws.FnExactModeOf': WHATEVER THE INPUT: true; the input reads as it did. -/
def fnExactModeOfSpec : ChangeSpec := { name := "fnExactModeOf", fn := fun _ => fun
  | [d1, d2] => { results := [.lit (.bool true)], args := [d1, d2] }
  | _ => none }
def fnExactModeOfRow : OpenClaim := { program := "ytapfocpnpmagfaa", sum := "7caf0eb8a60cf37f4916da02ff8685bc41b05ebe8197c1c294462c6c95001a04", func := "loop.example/g00903/laws.FnExactModeOf", spec := "fnExactModeOf", apart := false }
def FnExactModeOfSaid : Prop := fnExactModeOfRow.holds Try.pinned (OpenSpec.ofChange fnExactModeOfSpec)

/-- ITS FALSE NEIGHBOUR: 'it returns false'. Refute it at one input. -/
def fnExactModeOfWrong : ChangeSpec := { name := "fnExactModeOf", fn := fun _ => fun
  | [d1, d2] => { results := [.lit (.bool false)], args := [d1, d2] }
  | _ => none }
def FnExactModeOfWrongFalsely : Prop := fnExactModeOfRow.holds Try.pinned (OpenSpec.ofChange fnExactModeOfWrong)

/-- 'laws.FnExactNearestKey': WHATEVER THE INPUT: true; the input reads as it did. -/
def fnExactNearestKeySpec : ChangeSpec := { name := "fnExactNearestKey", fn := fun _ => fun
  | [d1, d2] => { results := [.lit (.bool true)], args := [d1, d2] }
  | _ => none }
def fnExactNearestKeyRow : OpenClaim := { program := "ytapfocpnpmagfaa", sum := "7caf0eb8a60cf37f4916da02ff8685bc41b05ebe8197c1c294462c6c95001a04", func := "loop.example/g00903/laws.FnExactNearestKey", spec := "fnExactNearestKey", apart := false }
def FnExactNearestKeySaid : Prop := fnExactNearestKeyRow.holds Try.pinned (OpenSpec.ofChange fnExactNearestKeySpec)

/-- ITS FALSE NEIGHBOUR: 'it returns false'. Refute it at one input. -/
def fnExactNearestKeyWrong : ChangeSpec := { name := "fnExactNearestKey", fn := fun _ => fun
  | [d1, d2] => { results := [.lit (.bool false)], args := [d1, d2] }
  | _ => none }
def FnExactNearestKeyWrongFalsely : Prop := fnExactNearestKeyRow.holds Try.pinned (OpenSpec.ofChange fnExactNearestKeyWrong)

/-- 'laws.FnExactTempoAt': WHATEVER THE INPUT: true; the input reads as it did. -/
def fnExactTempoAtSpec : ChangeSpec := { name := "fnExactTempoAt", fn := fun _ => fun
  | [d1, d2] => { results := [.lit (.bool true)], args := [d1, d2] }
  | _ => none }
def fnExactTempoAtRow : OpenClaim := { program := "ytapfocpnpmagfaa", sum := "7caf0eb8a60cf37f4916da02ff8685bc41b05ebe8197c1c294462c6c95001a04", func := "loop.example/g00903/laws.FnExactTempoAt", spec := "fnExactTempoAt", apart := false }
def FnExactTempoAtSaid : Prop := fnExactTempoAtRow.holds Try.pinned (OpenSpec.ofChange fnExactTempoAtSpec)

/-- ITS FALSE NEIGHBOUR: 'it returns false'. Refute it at one input. -/
def fnExactTempoAtWrong : ChangeSpec := { name := "fnExactTempoAt", fn := fun _ => fun
  | [d1, d2] => { results := [.lit (.bool false)], args := [d1, d2] }
  | _ => none }
def FnExactTempoAtWrongFalsely : Prop := fnExactTempoAtRow.holds Try.pinned (OpenSpec.ofChange fnExactTempoAtWrong)

/-- 'laws.FnModes': WHATEVER THE INPUT: true; the input reads as it did. -/
def fnModesSpec : ChangeSpec := { name := "fnModes", fn := fun _ => fun
  | [d1, d2] => { results := [.lit (.bool true)], args := [d1, d2] }
  | _ => none }
def fnModesRow : OpenClaim := { program := "ytapfocpnpmagfaa", sum := "7caf0eb8a60cf37f4916da02ff8685bc41b05ebe8197c1c294462c6c95001a04", func := "loop.example/g00903/laws.FnModes", spec := "fnModes", apart := false }
def FnModesSaid : Prop := fnModesRow.holds Try.pinned (OpenSpec.ofChange fnModesSpec)

/-- ITS FALSE NEIGHBOUR: 'it returns false'. Refute it at one input. -/
def fnModesWrong : ChangeSpec := { name := "fnModes", fn := fun _ => fun
  | [d1, d2] => { results := [.lit (.bool false)], args := [d1, d2] }
  | _ => none }
def FnModesWrongFalsely : Prop := fnModesRow.holds Try.pinned (OpenSpec.ofChange fnModesWrong)

/-- 'laws.FnExactPositionOfBeat': WHATEVER THE INPUT: true; the input reads as it did. -/
def fnExactPositionOfBeatSpec : ChangeSpec := { name := "fnExactPositionOfBeat", fn := fun _ => fun
  | [d1, d2] => { results := [.lit (.bool true)], args := [d1, d2] }
  | _ => none }
def fnExactPositionOfBeatRow : OpenClaim := { program := "ytapfocpnpmagfaa", sum := "7caf0eb8a60cf37f4916da02ff8685bc41b05ebe8197c1c294462c6c95001a04", func := "loop.example/g00903/laws.FnExactPositionOfBeat", spec := "fnExactPositionOfBeat", apart := false }
def FnExactPositionOfBeatSaid : Prop := fnExactPositionOfBeatRow.holds Try.pinned (OpenSpec.ofChange fnExactPositionOfBeatSpec)

/-- ITS FALSE NEIGHBOUR: 'it returns false'. Refute it at one input. -/
def fnExactPositionOfBeatWrong : ChangeSpec := { name := "fnExactPositionOfBeat", fn := fun _ => fun
  | [d1, d2] => { results := [.lit (.bool false)], args := [d1, d2] }
  | _ => none }
def FnExactPositionOfBeatWrongFalsely : Prop := fnExactPositionOfBeatRow.holds Try.pinned (OpenSpec.ofChange fnExactPositionOfBeatWrong)

/-- 'laws.FnExactBeatOfPosition': WHATEVER THE INPUT: true; the input reads as it did. -/
def fnExactBeatOfPositionSpec : ChangeSpec := { name := "fnExactBeatOfPosition", fn := fun _ => fun
  | [d1, d2] => { results := [.lit (.bool true)], args := [d1, d2] }
  | _ => none }
def fnExactBeatOfPositionRow : OpenClaim := { program := "ytapfocpnpmagfaa", sum := "7caf0eb8a60cf37f4916da02ff8685bc41b05ebe8197c1c294462c6c95001a04", func := "loop.example/g00903/laws.FnExactBeatOfPosition", spec := "fnExactBeatOfPosition", apart := false }
def FnExactBeatOfPositionSaid : Prop := fnExactBeatOfPositionRow.holds Try.pinned (OpenSpec.ofChange fnExactBeatOfPositionSpec)

/-- ITS FALSE NEIGHBOUR: 'it returns false'. Refute it at one input. -/
def fnExactBeatOfPositionWrong : ChangeSpec := { name := "fnExactBeatOfPosition", fn := fun _ => fun
  | [d1, d2] => { results := [.lit (.bool false)], args := [d1, d2] }
  | _ => none }
def FnExactBeatOfPositionWrongFalsely : Prop := fnExactBeatOfPositionRow.holds Try.pinned (OpenSpec.ofChange fnExactBeatOfPositionWrong)

/-- 'laws.FnExactSampleOfBeat': WHATEVER THE INPUT: true; the input reads as it did. -/
def fnExactSampleOfBeatSpec : ChangeSpec := { name := "fnExactSampleOfBeat", fn := fun _ => fun
  | [d1, d2] => { results := [.lit (.bool true)], args := [d1, d2] }
  | _ => none }
def fnExactSampleOfBeatRow : OpenClaim := { program := "ytapfocpnpmagfaa", sum := "7caf0eb8a60cf37f4916da02ff8685bc41b05ebe8197c1c294462c6c95001a04", func := "loop.example/g00903/laws.FnExactSampleOfBeat", spec := "fnExactSampleOfBeat", apart := false }
def FnExactSampleOfBeatSaid : Prop := fnExactSampleOfBeatRow.holds Try.pinned (OpenSpec.ofChange fnExactSampleOfBeatSpec)

/-- ITS FALSE NEIGHBOUR: 'it returns false'. Refute it at one input. -/
def fnExactSampleOfBeatWrong : ChangeSpec := { name := "fnExactSampleOfBeat", fn := fun _ => fun
  | [d1, d2] => { results := [.lit (.bool false)], args := [d1, d2] }
  | _ => none }
def FnExactSampleOfBeatWrongFalsely : Prop := fnExactSampleOfBeatRow.holds Try.pinned (OpenSpec.ofChange fnExactSampleOfBeatWrong)

/-- 'laws.FnExactJoinTempos': WHATEVER THE INPUT: true; the input reads as it did. -/
def fnExactJoinTemposSpec : ChangeSpec := { name := "fnExactJoinTempos", fn := fun _ => fun
  | [d1, d2, d3] => { results := [.lit (.bool true)], args := [d1, d2, d3] }
  | _ => none }
def fnExactJoinTemposRow : OpenClaim := { program := "ytapfocpnpmagfaa", sum := "7caf0eb8a60cf37f4916da02ff8685bc41b05ebe8197c1c294462c6c95001a04", func := "loop.example/g00903/laws.FnExactJoinTempos", spec := "fnExactJoinTempos", apart := false }
def FnExactJoinTemposSaid : Prop := fnExactJoinTemposRow.holds Try.pinned (OpenSpec.ofChange fnExactJoinTemposSpec)

/-- ITS FALSE NEIGHBOUR: 'it returns false'. Refute it at one input. -/
def fnExactJoinTemposWrong : ChangeSpec := { name := "fnExactJoinTempos", fn := fun _ => fun
  | [d1, d2, d3] => { results := [.lit (.bool false)], args := [d1, d2, d3] }
  | _ => none }
def FnExactJoinTemposWrongFalsely : Prop := fnExactJoinTemposRow.holds Try.pinned (OpenSpec.ofChange fnExactJoinTemposWrong)

/-- 'laws.FnExactSetTempo': WHATEVER THE INPUT: true; the input reads as it did. -/
def fnExactSetTempoSpec : ChangeSpec := { name := "fnExactSetTempo", fn := fun _ => fun
  | [d1, d2, d3] => { results := [.lit (.bool true)], args := [d1, d2, d3] }
  | _ => none }
def fnExactSetTempoRow : OpenClaim := { program := "ytapfocpnpmagfaa", sum := "7caf0eb8a60cf37f4916da02ff8685bc41b05ebe8197c1c294462c6c95001a04", func := "loop.example/g00903/laws.FnExactSetTempo", spec := "fnExactSetTempo", apart := false }
def FnExactSetTempoSaid : Prop := fnExactSetTempoRow.holds Try.pinned (OpenSpec.ofChange fnExactSetTempoSpec)

/-- ITS FALSE NEIGHBOUR: 'it returns false'. Refute it at one input. -/
def fnExactSetTempoWrong : ChangeSpec := { name := "fnExactSetTempo", fn := fun _ => fun
  | [d1, d2, d3] => { results := [.lit (.bool false)], args := [d1, d2, d3] }
  | _ => none }
def FnExactSetTempoWrongFalsely : Prop := fnExactSetTempoRow.holds Try.pinned (OpenSpec.ofChange fnExactSetTempoWrong)

/- THE SECOND FORM. 'bulk': how many values and letters a reading holds, each counted each time it is reached (what is shared counts as often as it is met; a slice's spare places count too). A statement '..UptoSaid' is the law's where the arguments, and the package variables that the reading takes, are together of bulk at most 1048576: NARROWER than '..Said'. Prove '..Said' where nothing that the law and all that it calls make is longer than what came in: it says more and counts as full. Else prove '..UptoSaid'. A law counts once. -/
mutual
def uptoBulk {H : Type} : DataW H → Nat
  | .lit (.string bytes) => bytes.length + 1
  | .lit _ => 1
  | .nil => 1
  | .ptr d => uptoBulk d + 1
  | .slice elems spare => uptoBulkAll elems + uptoBulkAll spare + 1
  | .agg parts => uptoBulkAll parts + 1
  | .iface _ d => uptoBulk d + 1
  | .map entries => uptoBulkEntries entries + 1
  | .held _ => 1
def uptoBulkAll {H : Type} : List (DataW H) → Nat
  | [] => 0
  | d :: r => uptoBulk d + uptoBulkAll r
def uptoBulkEntries {H : Type} : List (Lit × DataW H) → Nat
  | [] => 0
  | x :: r => uptoBulkEntry x + uptoBulkEntries r
def uptoBulkEntry {H : Type} : Lit × DataW H → Nat
  | (.string bytes, d) => bytes.length + uptoBulk d + 1
  | (_, d) => uptoBulk d + 1
 end
def uptoSmall : (H : Type) → List (DataW H) → Bool := fun _ ds => decide (uptoBulkAll ds ≤ 1048576)
def OpenSpec.upto (s : _root_.Go.ChangeSpec) : _root_.Go.OpenSpec := { _root_.Go.OpenSpec.ofChange s with cond := some uptoSmall }

/-- 'laws.FnExactSameItems', WHERE WHAT IT READS IS OF BULK AT MOST 1048576: true; the input reads as it did. -/
def fnExactSameItemsUptoRow : OpenClaim := { program := "ytapfocpnpmagfaa", sum := "7caf0eb8a60cf37f4916da02ff8685bc41b05ebe8197c1c294462c6c95001a04", func := "loop.example/g00903/laws.FnExactSameItems", spec := "fnExactSameItems", unfollowed := true, recurses := true, apart := false, narrowed := true }
def FnExactSameItemsUptoSaid : Prop := fnExactSameItemsUptoRow.holds Try.pinned (OpenSpec.upto fnExactSameItemsSpec)

/-- 'laws.FnExactStepsOfTuning', WHERE WHAT IT READS IS OF BULK AT MOST 1048576: true; the input reads as it did. -/
def fnExactStepsOfTuningUptoRow : OpenClaim := { program := "ytapfocpnpmagfaa", sum := "7caf0eb8a60cf37f4916da02ff8685bc41b05ebe8197c1c294462c6c95001a04", func := "loop.example/g00903/laws.FnExactStepsOfTuning", spec := "fnExactStepsOfTuning", apart := false, narrowed := true }
def FnExactStepsOfTuningUptoSaid : Prop := fnExactStepsOfTuningUptoRow.holds Try.pinned (OpenSpec.upto fnExactStepsOfTuningSpec)

/-- 'laws.FnExactValidTempos', WHERE WHAT IT READS IS OF BULK AT MOST 1048576: true; the input reads as it did. -/
def fnExactValidTemposUptoRow : OpenClaim := { program := "ytapfocpnpmagfaa", sum := "7caf0eb8a60cf37f4916da02ff8685bc41b05ebe8197c1c294462c6c95001a04", func := "loop.example/g00903/laws.FnExactValidTempos", spec := "fnExactValidTempos", apart := false, narrowed := true }
def FnExactValidTemposUptoSaid : Prop := fnExactValidTemposUptoRow.holds Try.pinned (OpenSpec.upto fnExactValidTemposSpec)

/-- 'laws.FnExactModeOf', WHERE WHAT IT READS IS OF BULK AT MOST 1048576: true; the input reads as it did. -/
def fnExactModeOfUptoRow : OpenClaim := { program := "ytapfocpnpmagfaa", sum := "7caf0eb8a60cf37f4916da02ff8685bc41b05ebe8197c1c294462c6c95001a04", func := "loop.example/g00903/laws.FnExactModeOf", spec := "fnExactModeOf", apart := false, narrowed := true }
def FnExactModeOfUptoSaid : Prop := fnExactModeOfUptoRow.holds Try.pinned (OpenSpec.upto fnExactModeOfSpec)

/-- 'laws.FnExactNearestKey', WHERE WHAT IT READS IS OF BULK AT MOST 1048576: true; the input reads as it did. -/
def fnExactNearestKeyUptoRow : OpenClaim := { program := "ytapfocpnpmagfaa", sum := "7caf0eb8a60cf37f4916da02ff8685bc41b05ebe8197c1c294462c6c95001a04", func := "loop.example/g00903/laws.FnExactNearestKey", spec := "fnExactNearestKey", apart := false, narrowed := true }
def FnExactNearestKeyUptoSaid : Prop := fnExactNearestKeyUptoRow.holds Try.pinned (OpenSpec.upto fnExactNearestKeySpec)

/-- 'laws.FnExactTempoAt', WHERE WHAT IT READS IS OF BULK AT MOST 1048576: true; the input reads as it did. -/
def fnExactTempoAtUptoRow : OpenClaim := { program := "ytapfocpnpmagfaa", sum := "7caf0eb8a60cf37f4916da02ff8685bc41b05ebe8197c1c294462c6c95001a04", func := "loop.example/g00903/laws.FnExactTempoAt", spec := "fnExactTempoAt", apart := false, narrowed := true }
def FnExactTempoAtUptoSaid : Prop := fnExactTempoAtUptoRow.holds Try.pinned (OpenSpec.upto fnExactTempoAtSpec)

/-- 'laws.FnModes', WHERE WHAT IT READS IS OF BULK AT MOST 1048576: true; the input reads as it did. -/
def fnModesUptoRow : OpenClaim := { program := "ytapfocpnpmagfaa", sum := "7caf0eb8a60cf37f4916da02ff8685bc41b05ebe8197c1c294462c6c95001a04", func := "loop.example/g00903/laws.FnModes", spec := "fnModes", apart := false, narrowed := true }
def FnModesUptoSaid : Prop := fnModesUptoRow.holds Try.pinned (OpenSpec.upto fnModesSpec)

/-- 'laws.FnExactPositionOfBeat', WHERE WHAT IT READS IS OF BULK AT MOST 1048576: true; the input reads as it did. -/
def fnExactPositionOfBeatUptoRow : OpenClaim := { program := "ytapfocpnpmagfaa", sum := "7caf0eb8a60cf37f4916da02ff8685bc41b05ebe8197c1c294462c6c95001a04", func := "loop.example/g00903/laws.FnExactPositionOfBeat", spec := "fnExactPositionOfBeat", apart := false, narrowed := true }
def FnExactPositionOfBeatUptoSaid : Prop := fnExactPositionOfBeatUptoRow.holds Try.pinned (OpenSpec.upto fnExactPositionOfBeatSpec)

/-- 'laws.FnExactBeatOfPosition', WHERE WHAT IT READS IS OF BULK AT MOST 1048576: true; the input reads as it did. -/
def fnExactBeatOfPositionUptoRow : OpenClaim := { program := "ytapfocpnpmagfaa", sum := "7caf0eb8a60cf37f4916da02ff8685bc41b05ebe8197c1c294462c6c95001a04", func := "loop.example/g00903/laws.FnExactBeatOfPosition", spec := "fnExactBeatOfPosition", apart := false, narrowed := true }
def FnExactBeatOfPositionUptoSaid : Prop := fnExactBeatOfPositionUptoRow.holds Try.pinned (OpenSpec.upto fnExactBeatOfPositionSpec)

/-- 'laws.FnExactSampleOfBeat', WHERE WHAT IT READS IS OF BULK AT MOST 1048576: true; the input reads as it did. -/
def fnExactSampleOfBeatUptoRow : OpenClaim := { program := "ytapfocpnpmagfaa", sum := "7caf0eb8a60cf37f4916da02ff8685bc41b05ebe8197c1c294462c6c95001a04", func := "loop.example/g00903/laws.FnExactSampleOfBeat", spec := "fnExactSampleOfBeat", apart := false, narrowed := true }
def FnExactSampleOfBeatUptoSaid : Prop := fnExactSampleOfBeatUptoRow.holds Try.pinned (OpenSpec.upto fnExactSampleOfBeatSpec)

/-- 'laws.FnExactJoinTempos', WHERE WHAT IT READS IS OF BULK AT MOST 1048576: true; the input reads as it did. -/
def fnExactJoinTemposUptoRow : OpenClaim := { program := "ytapfocpnpmagfaa", sum := "7caf0eb8a60cf37f4916da02ff8685bc41b05ebe8197c1c294462c6c95001a04", func := "loop.example/g00903/laws.FnExactJoinTempos", spec := "fnExactJoinTempos", apart := false, narrowed := true }
def FnExactJoinTemposUptoSaid : Prop := fnExactJoinTemposUptoRow.holds Try.pinned (OpenSpec.upto fnExactJoinTemposSpec)

/-- 'laws.FnExactSetTempo', WHERE WHAT IT READS IS OF BULK AT MOST 1048576: true; the input reads as it did. -/
def fnExactSetTempoUptoRow : OpenClaim := { program := "ytapfocpnpmagfaa", sum := "7caf0eb8a60cf37f4916da02ff8685bc41b05ebe8197c1c294462c6c95001a04", func := "loop.example/g00903/laws.FnExactSetTempo", spec := "fnExactSetTempo", apart := false, narrowed := true }
def FnExactSetTempoUptoSaid : Prop := fnExactSetTempoUptoRow.holds Try.pinned (OpenSpec.upto fnExactSetTempoSpec)

end Rows
end Go.Proofs.Ytapfocpnpmagfaa
