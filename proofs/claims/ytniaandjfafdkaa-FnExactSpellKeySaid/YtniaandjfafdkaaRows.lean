/-
  No cell of these rows narrows 'for every input' (looked for: loops, veiled, ifaces, maps, wideKeys, modest, calm, conditions, laid).
  DERIVED. THE GIVEN ROWS OF THIS SEAT. 8 by the template 'for every input the law returns true; each argument reads behind the call as it read before'; 0 by the template 'total and deterministic' (their statements: YtniaandjfafdkaaTotals.lean).
  GIVEN WITH THE SEED: the statements are not yours to turn. If you find one false, say at which input.
  Laid BY PROGRAM, IN A SANDBOX (cutbox-rows.mjs): the forced cells as the released guide's own fill.sh prints them over the translation 4b556525dfa14607… (all of the seat's roots in one cut). By AI agents, Wed Nov 11 2026. No macro, syntax, notation, axiom, sorry.
-/
import Derived.Test.YtniaandjfafdkaaChecked
import GoSem.Claim
import GoSem.ClaimJoined
import GoSem.ClaimMapViews
import Derived.JoinedTies
import Derived.KernelRfl
namespace Go.Proofs.Ytniaandjfafdkaa
/- THE CELL 'sum', in the pinned program and in every row, IS THE sha256 OF THE DUMP (.gsa) THAT YtniaandjfafdkaaProg.lean LOADS. Nothing in Lean hashes anything: it is a label: what it is worth is what the hold of that sum in a sandbox is worth. -/
noncomputable def Try.pinned : Pinned := { name := "ytniaandjfafdkaa", sum := "4b556525dfa146075aaae9c71ae990ac9fc07f20e2e44d96dd53f87145bc6c9a", checked := Try.checked }
namespace Rows
def none {H : Type} : Left H := { results := [], args := [] }

/-- 'laws.FnExactValidPitch': WHATEVER THE INPUT: true; the input reads as it did. -/
def fnExactValidPitchSpec : ChangeSpec := { name := "fnExactValidPitch", fn := fun _ => fun
  | [d] => { results := [.lit (.bool true)], args := [d] }
  | _ => none }
def fnExactValidPitchRow : OpenClaim := { program := "ytniaandjfafdkaa", sum := "4b556525dfa146075aaae9c71ae990ac9fc07f20e2e44d96dd53f87145bc6c9a", func := "loop.example/g00903/laws.FnExactValidPitch", spec := "fnExactValidPitch", apart := false }
def FnExactValidPitchSaid : Prop := fnExactValidPitchRow.holds Try.pinned (OpenSpec.ofChange fnExactValidPitchSpec)

/-- ITS FALSE NEIGHBOUR: 'it returns false'. Refute it at one input. -/
def fnExactValidPitchWrong : ChangeSpec := { name := "fnExactValidPitch", fn := fun _ => fun
  | [d] => { results := [.lit (.bool false)], args := [d] }
  | _ => none }
def FnExactValidPitchWrongFalsely : Prop := fnExactValidPitchRow.holds Try.pinned (OpenSpec.ofChange fnExactValidPitchWrong)

/-- 'laws.FnExactKeyOfPitch': WHATEVER THE INPUT: true; the input reads as it did. -/
def fnExactKeyOfPitchSpec : ChangeSpec := { name := "fnExactKeyOfPitch", fn := fun _ => fun
  | [d] => { results := [.lit (.bool true)], args := [d] }
  | _ => none }
def fnExactKeyOfPitchRow : OpenClaim := { program := "ytniaandjfafdkaa", sum := "4b556525dfa146075aaae9c71ae990ac9fc07f20e2e44d96dd53f87145bc6c9a", func := "loop.example/g00903/laws.FnExactKeyOfPitch", spec := "fnExactKeyOfPitch", apart := false }
def FnExactKeyOfPitchSaid : Prop := fnExactKeyOfPitchRow.holds Try.pinned (OpenSpec.ofChange fnExactKeyOfPitchSpec)

/-- ITS FALSE NEIGHBOUR: 'it returns false'. Refute it at one input. -/
def fnExactKeyOfPitchWrong : ChangeSpec := { name := "fnExactKeyOfPitch", fn := fun _ => fun
  | [d] => { results := [.lit (.bool false)], args := [d] }
  | _ => none }
def FnExactKeyOfPitchWrongFalsely : Prop := fnExactKeyOfPitchRow.holds Try.pinned (OpenSpec.ofChange fnExactKeyOfPitchWrong)

/-- 'laws.FnExactValidInterval': WHATEVER THE INPUT: true; the input reads as it did. -/
def fnExactValidIntervalSpec : ChangeSpec := { name := "fnExactValidInterval", fn := fun _ => fun
  | [d] => { results := [.lit (.bool true)], args := [d] }
  | _ => none }
def fnExactValidIntervalRow : OpenClaim := { program := "ytniaandjfafdkaa", sum := "4b556525dfa146075aaae9c71ae990ac9fc07f20e2e44d96dd53f87145bc6c9a", func := "loop.example/g00903/laws.FnExactValidInterval", spec := "fnExactValidInterval", apart := false }
def FnExactValidIntervalSaid : Prop := fnExactValidIntervalRow.holds Try.pinned (OpenSpec.ofChange fnExactValidIntervalSpec)

/-- ITS FALSE NEIGHBOUR: 'it returns false'. Refute it at one input. -/
def fnExactValidIntervalWrong : ChangeSpec := { name := "fnExactValidInterval", fn := fun _ => fun
  | [d] => { results := [.lit (.bool false)], args := [d] }
  | _ => none }
def FnExactValidIntervalWrongFalsely : Prop := fnExactValidIntervalRow.holds Try.pinned (OpenSpec.ofChange fnExactValidIntervalWrong)

/-- 'laws.FnExactFifthsOf': WHATEVER THE INPUT: true; the input reads as it did. -/
def fnExactFifthsOfSpec : ChangeSpec := { name := "fnExactFifthsOf", fn := fun _ => fun
  | [d] => { results := [.lit (.bool true)], args := [d] }
  | _ => none }
def fnExactFifthsOfRow : OpenClaim := { program := "ytniaandjfafdkaa", sum := "4b556525dfa146075aaae9c71ae990ac9fc07f20e2e44d96dd53f87145bc6c9a", func := "loop.example/g00903/laws.FnExactFifthsOf", spec := "fnExactFifthsOf", apart := false }
def FnExactFifthsOfSaid : Prop := fnExactFifthsOfRow.holds Try.pinned (OpenSpec.ofChange fnExactFifthsOfSpec)

/-- ITS FALSE NEIGHBOUR: 'it returns false'. Refute it at one input. -/
def fnExactFifthsOfWrong : ChangeSpec := { name := "fnExactFifthsOf", fn := fun _ => fun
  | [d] => { results := [.lit (.bool false)], args := [d] }
  | _ => none }
def FnExactFifthsOfWrongFalsely : Prop := fnExactFifthsOfRow.holds Try.pinned (OpenSpec.ofChange fnExactFifthsOfWrong)

/-- 'laws.FnExactAddIntervals': WHATEVER THE INPUT: true; the input reads as it did. -/
def fnExactAddIntervalsSpec : ChangeSpec := { name := "fnExactAddIntervals", fn := fun _ => fun
  | [d1, d2] => { results := [.lit (.bool true)], args := [d1, d2] }
  | _ => none }
def fnExactAddIntervalsRow : OpenClaim := { program := "ytniaandjfafdkaa", sum := "4b556525dfa146075aaae9c71ae990ac9fc07f20e2e44d96dd53f87145bc6c9a", func := "loop.example/g00903/laws.FnExactAddIntervals", spec := "fnExactAddIntervals", apart := false }
def FnExactAddIntervalsSaid : Prop := fnExactAddIntervalsRow.holds Try.pinned (OpenSpec.ofChange fnExactAddIntervalsSpec)

/-- ITS FALSE NEIGHBOUR: 'it returns false'. Refute it at one input. -/
def fnExactAddIntervalsWrong : ChangeSpec := { name := "fnExactAddIntervals", fn := fun _ => fun
  | [d1, d2] => { results := [.lit (.bool false)], args := [d1, d2] }
  | _ => none }
def FnExactAddIntervalsWrongFalsely : Prop := fnExactAddIntervalsRow.holds Try.pinned (OpenSpec.ofChange fnExactAddIntervalsWrong)

/-- 'laws.FnExactIntervalBetween': WHATEVER THE INPUT: true; the input reads as it did. -/
def fnExactIntervalBetweenSpec : ChangeSpec := { name := "fnExactIntervalBetween", fn := fun _ => fun
  | [d1, d2] => { results := [.lit (.bool true)], args := [d1, d2] }
  | _ => none }
def fnExactIntervalBetweenRow : OpenClaim := { program := "ytniaandjfafdkaa", sum := "4b556525dfa146075aaae9c71ae990ac9fc07f20e2e44d96dd53f87145bc6c9a", func := "loop.example/g00903/laws.FnExactIntervalBetween", spec := "fnExactIntervalBetween", apart := false }
def FnExactIntervalBetweenSaid : Prop := fnExactIntervalBetweenRow.holds Try.pinned (OpenSpec.ofChange fnExactIntervalBetweenSpec)

/-- ITS FALSE NEIGHBOUR: 'it returns false'. Refute it at one input. -/
def fnExactIntervalBetweenWrong : ChangeSpec := { name := "fnExactIntervalBetween", fn := fun _ => fun
  | [d1, d2] => { results := [.lit (.bool false)], args := [d1, d2] }
  | _ => none }
def FnExactIntervalBetweenWrongFalsely : Prop := fnExactIntervalBetweenRow.holds Try.pinned (OpenSpec.ofChange fnExactIntervalBetweenWrong)

/-- 'laws.FnExactSpellKey': WHATEVER THE INPUT: true; the input reads as it did. -/
def fnExactSpellKeySpec : ChangeSpec := { name := "fnExactSpellKey", fn := fun _ => fun
  | [d1, d2] => { results := [.lit (.bool true)], args := [d1, d2] }
  | _ => none }
def fnExactSpellKeyRow : OpenClaim := { program := "ytniaandjfafdkaa", sum := "4b556525dfa146075aaae9c71ae990ac9fc07f20e2e44d96dd53f87145bc6c9a", func := "loop.example/g00903/laws.FnExactSpellKey", spec := "fnExactSpellKey", apart := false }
def FnExactSpellKeySaid : Prop := fnExactSpellKeyRow.holds Try.pinned (OpenSpec.ofChange fnExactSpellKeySpec)

/-- ITS FALSE NEIGHBOUR: 'it returns false'. Refute it at one input. -/
def fnExactSpellKeyWrong : ChangeSpec := { name := "fnExactSpellKey", fn := fun _ => fun
  | [d1, d2] => { results := [.lit (.bool false)], args := [d1, d2] }
  | _ => none }
def FnExactSpellKeyWrongFalsely : Prop := fnExactSpellKeyRow.holds Try.pinned (OpenSpec.ofChange fnExactSpellKeyWrong)

/-- 'laws.FnExactMovePitch': WHATEVER THE INPUT: true; the input reads as it did. -/
def fnExactMovePitchSpec : ChangeSpec := { name := "fnExactMovePitch", fn := fun _ => fun
  | [d1, d2] => { results := [.lit (.bool true)], args := [d1, d2] }
  | _ => none }
def fnExactMovePitchRow : OpenClaim := { program := "ytniaandjfafdkaa", sum := "4b556525dfa146075aaae9c71ae990ac9fc07f20e2e44d96dd53f87145bc6c9a", func := "loop.example/g00903/laws.FnExactMovePitch", spec := "fnExactMovePitch", apart := false }
def FnExactMovePitchSaid : Prop := fnExactMovePitchRow.holds Try.pinned (OpenSpec.ofChange fnExactMovePitchSpec)

/-- ITS FALSE NEIGHBOUR: 'it returns false'. Refute it at one input. -/
def fnExactMovePitchWrong : ChangeSpec := { name := "fnExactMovePitch", fn := fun _ => fun
  | [d1, d2] => { results := [.lit (.bool false)], args := [d1, d2] }
  | _ => none }
def FnExactMovePitchWrongFalsely : Prop := fnExactMovePitchRow.holds Try.pinned (OpenSpec.ofChange fnExactMovePitchWrong)

/- THE SECOND FORM. 'bulk': how many values and letters a reading holds, each counted each time it is reached (what is shared counts as often as it is met; a slice's spare places count too). A statement '..UptoSaid' is the law's where the arguments, and the package variables that the reading takes, are together of bulk at most 1048576: NARROWER than '..Said'. Prove '..Said' where nothing that the law and all that it calls make is longer than what came in: it says more and counts as full. Else prove '..UptoSaid'. A law counts once. -/
mutual
def uptoBulk {H : Type} : DataW H → Nat
  | .lit (.string bytes) => bytes.length + 1
  | .lit _ => 1
  | .nil => 1
  | .ptr d => uptoBulk d + 1
  | .slice elems spare => uptoBulkAll elems + uptoBulkAll spare + 1
  | .agg parts => uptoBulkAll parts + 1
  | .iface _ d => uptoBulk d + 1
  | .map entries => uptoBulkEntries entries + 1
  | .held _ => 1
def uptoBulkAll {H : Type} : List (DataW H) → Nat
  | [] => 0
  | d :: r => uptoBulk d + uptoBulkAll r
def uptoBulkEntries {H : Type} : List (Lit × DataW H) → Nat
  | [] => 0
  | x :: r => uptoBulkEntry x + uptoBulkEntries r
def uptoBulkEntry {H : Type} : Lit × DataW H → Nat
  | (.string bytes, d) => bytes.length + uptoBulk d + 1
  | (_, d) => uptoBulk d + 1
 end
def uptoSmall : (H : Type) → List (DataW H) → Bool := fun _ ds => decide (uptoBulkAll ds ≤ 1048576)
def OpenSpec.upto (s : _root_.Go.ChangeSpec) : _root_.Go.OpenSpec := { _root_.Go.OpenSpec.ofChange s with cond := some uptoSmall }

/-- 'laws.FnExactValidPitch', WHERE WHAT IT READS IS OF BULK AT MOST 1048576: true; the input reads as it did. -/
def fnExactValidPitchUptoRow : OpenClaim := { program := "ytniaandjfafdkaa", sum := "4b556525dfa146075aaae9c71ae990ac9fc07f20e2e44d96dd53f87145bc6c9a", func := "loop.example/g00903/laws.FnExactValidPitch", spec := "fnExactValidPitch", apart := false, narrowed := true }
def FnExactValidPitchUptoSaid : Prop := fnExactValidPitchUptoRow.holds Try.pinned (OpenSpec.upto fnExactValidPitchSpec)

/-- 'laws.FnExactKeyOfPitch', WHERE WHAT IT READS IS OF BULK AT MOST 1048576: true; the input reads as it did. -/
def fnExactKeyOfPitchUptoRow : OpenClaim := { program := "ytniaandjfafdkaa", sum := "4b556525dfa146075aaae9c71ae990ac9fc07f20e2e44d96dd53f87145bc6c9a", func := "loop.example/g00903/laws.FnExactKeyOfPitch", spec := "fnExactKeyOfPitch", apart := false, narrowed := true }
def FnExactKeyOfPitchUptoSaid : Prop := fnExactKeyOfPitchUptoRow.holds Try.pinned (OpenSpec.upto fnExactKeyOfPitchSpec)

/-- 'laws.FnExactValidInterval', WHERE WHAT IT READS IS OF BULK AT MOST 1048576: true; the input reads as it did. -/
def fnExactValidIntervalUptoRow : OpenClaim := { program := "ytniaandjfafdkaa", sum := "4b556525dfa146075aaae9c71ae990ac9fc07f20e2e44d96dd53f87145bc6c9a", func := "loop.example/g00903/laws.FnExactValidInterval", spec := "fnExactValidInterval", apart := false, narrowed := true }
def FnExactValidIntervalUptoSaid : Prop := fnExactValidIntervalUptoRow.holds Try.pinned (OpenSpec.upto fnExactValidIntervalSpec)

/-- 'laws.FnExactFifthsOf', WHERE WHAT IT READS IS OF BULK AT MOST 1048576: true; the input reads as it did. -/
def fnExactFifthsOfUptoRow : OpenClaim := { program := "ytniaandjfafdkaa", sum := "4b556525dfa146075aaae9c71ae990ac9fc07f20e2e44d96dd53f87145bc6c9a", func := "loop.example/g00903/laws.FnExactFifthsOf", spec := "fnExactFifthsOf", apart := false, narrowed := true }
def FnExactFifthsOfUptoSaid : Prop := fnExactFifthsOfUptoRow.holds Try.pinned (OpenSpec.upto fnExactFifthsOfSpec)

/-- 'laws.FnExactAddIntervals', WHERE WHAT IT READS IS OF BULK AT MOST 1048576: true; the input reads as it did. -/
def fnExactAddIntervalsUptoRow : OpenClaim := { program := "ytniaandjfafdkaa", sum := "4b556525dfa146075aaae9c71ae990ac9fc07f20e2e44d96dd53f87145bc6c9a", func := "loop.example/g00903/laws.FnExactAddIntervals", spec := "fnExactAddIntervals", apart := false, narrowed := true }
def FnExactAddIntervalsUptoSaid : Prop := fnExactAddIntervalsUptoRow.holds Try.pinned (OpenSpec.upto fnExactAddIntervalsSpec)

/-- 'laws.FnExactIntervalBetween', WHERE WHAT IT READS IS OF BULK AT MOST 1048576: true; the input reads as it did. -/
def fnExactIntervalBetweenUptoRow : OpenClaim := { program := "ytniaandjfafdkaa", sum := "4b556525dfa146075aaae9c71ae990ac9fc07f20e2e44d96dd53f87145bc6c9a", func := "loop.example/g00903/laws.FnExactIntervalBetween", spec := "fnExactIntervalBetween", apart := false, narrowed := true }
def FnExactIntervalBetweenUptoSaid : Prop := fnExactIntervalBetweenUptoRow.holds Try.pinned (OpenSpec.upto fnExactIntervalBetweenSpec)

/-- 'laws.FnExactSpellKey', WHERE WHAT IT READS IS OF BULK AT MOST 1048576: true; the input reads as it did. -/
def fnExactSpellKeyUptoRow : OpenClaim := { program := "ytniaandjfafdkaa", sum := "4b556525dfa146075aaae9c71ae990ac9fc07f20e2e44d96dd53f87145bc6c9a", func := "loop.example/g00903/laws.FnExactSpellKey", spec := "fnExactSpellKey", apart := false, narrowed := true }
def FnExactSpellKeyUptoSaid : Prop := fnExactSpellKeyUptoRow.holds Try.pinned (OpenSpec.upto fnExactSpellKeySpec)

/-- 'laws.FnExactMovePitch', WHERE WHAT IT READS IS OF BULK AT MOST 1048576: true; the input reads as it did. -/
def fnExactMovePitchUptoRow : OpenClaim := { program := "ytniaandjfafdkaa", sum := "4b556525dfa146075aaae9c71ae990ac9fc07f20e2e44d96dd53f87145bc6c9a", func := "loop.example/g00903/laws.FnExactMovePitch", spec := "fnExactMovePitch", apart := false, narrowed := true }
def FnExactMovePitchUptoSaid : Prop := fnExactMovePitchUptoRow.holds Try.pinned (OpenSpec.upto fnExactMovePitchSpec)

end Rows
end Go.Proofs.Ytniaandjfafdkaa
