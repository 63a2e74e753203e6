/-
  No cell of these rows narrows 'for every input' (looked for: loops, veiled, ifaces, maps, wideKeys, modest, calm, conditions, laid).
  DERIVED. THE GIVEN ROWS OF THIS SEAT. 4 by the template 'for every input the law returns true; each argument reads behind the call as it read before'; 0 by the template 'total and deterministic' (their statements: YtemlpimibhijoaaTotals.lean).
  GIVEN WITH THE SEED: the statements are not yours to turn. If you find one false, say at which input.
  Laid BY PROGRAM, IN A SANDBOX (cutbox-rows.mjs): the forced cells as the released guide's own fill.sh prints them over the translation e4a766e9a6e427e2… (all of the seat's roots in one cut). By AI agents, Wed Nov 11 2026. No macro, syntax, notation, axiom, sorry.
-/
import Derived.Test.YtemlpimibhijoaaChecked
import GoSem.Claim
import GoSem.ClaimJoined
import GoSem.ClaimMapViews
import Derived.JoinedTies
import Derived.KernelRfl
namespace Go.Proofs.Ytemlpimibhijoaa
/- THE CELL 'sum', in the pinned program and in every row, IS THE sha256 OF THE DUMP (.gsa) THAT YtemlpimibhijoaaProg.lean LOADS. Nothing in Lean hashes anything: it is a label: what it is worth is what the hold of that sum in a sandbox is worth. -/
noncomputable def Try.pinned : Pinned := { name := "ytemlpimibhijoaa", sum := "e4a766e9a6e427e27c35da382334295d6a998e17f9b79f5d5459ab26008a2bc8", checked := Try.checked }
namespace Rows
def none {H : Type} : Left H := { results := [], args := [] }

/-- 'laws.FnExactPlayItems': WHATEVER THE INPUT: true; the input reads as it did. -/
def fnExactPlayItemsSpec : ChangeSpec := { name := "fnExactPlayItems", fn := fun _ => fun
  | [d1, d2] => { results := [.lit (.bool true)], args := [d1, d2] }
  | _ => none }
def fnExactPlayItemsRow : OpenClaim := { program := "ytemlpimibhijoaa", sum := "e4a766e9a6e427e27c35da382334295d6a998e17f9b79f5d5459ab26008a2bc8", func := "loop.example/g00903/laws.FnExactPlayItems", spec := "fnExactPlayItems", recurses := true, apart := false }
def FnExactPlayItemsSaid : Prop := fnExactPlayItemsRow.holds Try.pinned (OpenSpec.ofChange fnExactPlayItemsSpec)

/-- ITS FALSE NEIGHBOUR: 'it returns false'. Refute it at one input. -/
def fnExactPlayItemsWrong : ChangeSpec := { name := "fnExactPlayItems", fn := fun _ => fun
  | [d1, d2] => { results := [.lit (.bool false)], args := [d1, d2] }
  | _ => none }
def FnExactPlayItemsWrongFalsely : Prop := fnExactPlayItemsRow.holds Try.pinned (OpenSpec.ofChange fnExactPlayItemsWrong)

/-- 'laws.FnExactFlattenItems': WHATEVER THE INPUT: true; the input reads as it did. -/
def fnExactFlattenItemsSpec : ChangeSpec := { name := "fnExactFlattenItems", fn := fun _ => fun
  | [d] => { results := [.lit (.bool true)], args := [d] }
  | _ => none }
def fnExactFlattenItemsRow : OpenClaim := { program := "ytemlpimibhijoaa", sum := "e4a766e9a6e427e27c35da382334295d6a998e17f9b79f5d5459ab26008a2bc8", func := "loop.example/g00903/laws.FnExactFlattenItems", spec := "fnExactFlattenItems", recurses := true, apart := false }
def FnExactFlattenItemsSaid : Prop := fnExactFlattenItemsRow.holds Try.pinned (OpenSpec.ofChange fnExactFlattenItemsSpec)

/-- ITS FALSE NEIGHBOUR: 'it returns false'. Refute it at one input. -/
def fnExactFlattenItemsWrong : ChangeSpec := { name := "fnExactFlattenItems", fn := fun _ => fun
  | [d] => { results := [.lit (.bool false)], args := [d] }
  | _ => none }
def FnExactFlattenItemsWrongFalsely : Prop := fnExactFlattenItemsRow.holds Try.pinned (OpenSpec.ofChange fnExactFlattenItemsWrong)

/-- 'laws.FnExactFoldItems': WHATEVER THE INPUT: true; the input reads as it did. -/
def fnExactFoldItemsSpec : ChangeSpec := { name := "fnExactFoldItems", fn := fun _ => fun
  | [d] => { results := [.lit (.bool true)], args := [d] }
  | _ => none }
def fnExactFoldItemsRow : OpenClaim := { program := "ytemlpimibhijoaa", sum := "e4a766e9a6e427e27c35da382334295d6a998e17f9b79f5d5459ab26008a2bc8", func := "loop.example/g00903/laws.FnExactFoldItems", spec := "fnExactFoldItems", unfollowed := true, recurses := true, apart := false }
def FnExactFoldItemsSaid : Prop := fnExactFoldItemsRow.holds Try.pinned (OpenSpec.ofChange fnExactFoldItemsSpec)

/-- ITS FALSE NEIGHBOUR: 'it returns false'. Refute it at one input. -/
def fnExactFoldItemsWrong : ChangeSpec := { name := "fnExactFoldItems", fn := fun _ => fun
  | [d] => { results := [.lit (.bool false)], args := [d] }
  | _ => none }
def FnExactFoldItemsWrongFalsely : Prop := fnExactFoldItemsRow.holds Try.pinned (OpenSpec.ofChange fnExactFoldItemsWrong)

/-- 'laws.FnExactItemsOfScore': WHATEVER THE INPUT: true; the input reads as it did. -/
def fnExactItemsOfScoreSpec : ChangeSpec := { name := "fnExactItemsOfScore", fn := fun _ => fun
  | [d1, d2] => { results := [.lit (.bool true)], args := [d1, d2] }
  | _ => none }
def fnExactItemsOfScoreRow : OpenClaim := { program := "ytemlpimibhijoaa", sum := "e4a766e9a6e427e27c35da382334295d6a998e17f9b79f5d5459ab26008a2bc8", func := "loop.example/g00903/laws.FnExactItemsOfScore", spec := "fnExactItemsOfScore", apart := false }
def FnExactItemsOfScoreSaid : Prop := fnExactItemsOfScoreRow.holds Try.pinned (OpenSpec.ofChange fnExactItemsOfScoreSpec)

/-- ITS FALSE NEIGHBOUR: 'it returns false'. Refute it at one input. -/
def fnExactItemsOfScoreWrong : ChangeSpec := { name := "fnExactItemsOfScore", fn := fun _ => fun
  | [d1, d2] => { results := [.lit (.bool false)], args := [d1, d2] }
  | _ => none }
def FnExactItemsOfScoreWrongFalsely : Prop := fnExactItemsOfScoreRow.holds Try.pinned (OpenSpec.ofChange fnExactItemsOfScoreWrong)

/- THE SECOND FORM. 'bulk': how many values and letters a reading holds, each counted each time it is reached (what is shared counts as often as it is met; a slice's spare places count too). A statement '..UptoSaid' is the law's where the arguments, and the package variables that the reading takes, are together of bulk at most 1048576: NARROWER than '..Said'. Prove '..Said' where nothing that the law and all that it calls make is longer than what came in: it says more and counts as full. Else prove '..UptoSaid'. A law counts once. -/
mutual
def uptoBulk {H : Type} : DataW H → Nat
  | .lit (.string bytes) => bytes.length + 1
  | .lit _ => 1
  | .nil => 1
  | .ptr d => uptoBulk d + 1
  | .slice elems spare => uptoBulkAll elems + uptoBulkAll spare + 1
  | .agg parts => uptoBulkAll parts + 1
  | .iface _ d => uptoBulk d + 1
  | .map entries => uptoBulkEntries entries + 1
  | .held _ => 1
def uptoBulkAll {H : Type} : List (DataW H) → Nat
  | [] => 0
  | d :: r => uptoBulk d + uptoBulkAll r
def uptoBulkEntries {H : Type} : List (Lit × DataW H) → Nat
  | [] => 0
  | x :: r => uptoBulkEntry x + uptoBulkEntries r
def uptoBulkEntry {H : Type} : Lit × DataW H → Nat
  | (.string bytes, d) => bytes.length + uptoBulk d + 1
  | (_, d) => uptoBulk d + 1
 end
def uptoSmall : (H : Type) → List (DataW H) → Bool := fun _ ds => decide (uptoBulkAll ds ≤ 1048576)
def OpenSpec.upto (s : _root_.Go.ChangeSpec) : _root_.Go.OpenSpec := { _root_.Go.OpenSpec.ofChange s with cond := some uptoSmall }

/-- 'laws.FnExactPlayItems', WHERE WHAT IT READS IS OF BULK AT MOST 1048576: true; the input reads as it did. -/
def fnExactPlayItemsUptoRow : OpenClaim := { program := "ytemlpimibhijoaa", sum := "e4a766e9a6e427e27c35da382334295d6a998e17f9b79f5d5459ab26008a2bc8", func := "loop.example/g00903/laws.FnExactPlayItems", spec := "fnExactPlayItems", recurses := true, apart := false, narrowed := true }
def FnExactPlayItemsUptoSaid : Prop := fnExactPlayItemsUptoRow.holds Try.pinned (OpenSpec.upto fnExactPlayItemsSpec)

/-- 'laws.FnExactFlattenItems', WHERE WHAT IT READS IS OF BULK AT MOST 1048576: true; the input reads as it did. -/
def fnExactFlattenItemsUptoRow : OpenClaim := { program := "ytemlpimibhijoaa", sum := "e4a766e9a6e427e27c35da382334295d6a998e17f9b79f5d5459ab26008a2bc8", func := "loop.example/g00903/laws.FnExactFlattenItems", spec := "fnExactFlattenItems", recurses := true, apart := false, narrowed := true }
def FnExactFlattenItemsUptoSaid : Prop := fnExactFlattenItemsUptoRow.holds Try.pinned (OpenSpec.upto fnExactFlattenItemsSpec)

/-- 'laws.FnExactFoldItems', WHERE WHAT IT READS IS OF BULK AT MOST 1048576: true; the input reads as it did. -/
def fnExactFoldItemsUptoRow : OpenClaim := { program := "ytemlpimibhijoaa", sum := "e4a766e9a6e427e27c35da382334295d6a998e17f9b79f5d5459ab26008a2bc8", func := "loop.example/g00903/laws.FnExactFoldItems", spec := "fnExactFoldItems", unfollowed := true, recurses := true, apart := false, narrowed := true }
def FnExactFoldItemsUptoSaid : Prop := fnExactFoldItemsUptoRow.holds Try.pinned (OpenSpec.upto fnExactFoldItemsSpec)

/-- 'laws.FnExactItemsOfScore', WHERE WHAT IT READS IS OF BULK AT MOST 1048576: true; the input reads as it did. -/
def fnExactItemsOfScoreUptoRow : OpenClaim := { program := "ytemlpimibhijoaa", sum := "e4a766e9a6e427e27c35da382334295d6a998e17f9b79f5d5459ab26008a2bc8", func := "loop.example/g00903/laws.FnExactItemsOfScore", spec := "fnExactItemsOfScore", apart := false, narrowed := true }
def FnExactItemsOfScoreUptoSaid : Prop := fnExactItemsOfScoreUptoRow.holds Try.pinned (OpenSpec.upto fnExactItemsOfScoreSpec)

end Rows
end Go.Proofs.Ytemlpimibhijoaa
