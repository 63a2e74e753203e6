/- Contracts: tunings taken over, compared, counted, valid; the program and the reference. Conditions: as each says. -/
import Derived.Test.YtkeckmdmmbeaiaaGreatDoorFf
set_option linter.unusedSimpArgs false
set_option linter.unusedVariables false
namespace Go.Proofs.YtkeckmdmmbeaiaaGreatDoor
open Go.RowKit Sx
set_option maxRecDepth 100000
set_option maxHeartbeats 1000000
abbrev tTuning : Ty := .pair tFrac (.pair tFrac (.seq tFrac))
def ct_sizeFrac : Ct := ctOf [.v qFrac] (fun ((xs : List tFrac.den), _) => .p ((xs.length : Int) ≤ 9223372036854775807)) (fun ((xs : List tFrac.den), _) => .int .i64 (xs.length : Int))
set_option maxHeartbeats 1000000 in
theorem sat_sizeFrac : Sat Tryz.prog 126 ct_sizeFrac := by
  refine sat_typed (C := C_Ff) (L := noL) (wr := false) mixedOk Tryz.func126 C_Ff_ok (loops0 (by kernel_rfl)) (fun _ => by first | rfl | (simp [ownsOf, ownsOf.ownsL, enc, encV, encS])) fun x hp => ?_
  obtain ⟨(xs : List tFrac.den), _⟩ := x
  replace hp : (xs.length : Int) ≤ 9223372036854775807 := hp
  have htree : exFunc Tryz.prog C_Ff false noL Tryz.f126 (encA [.v qFrac] (xs, ())) = .leaf [.int .i64 ((↑xs.length : Int))] := by kernel_rfl
  refine (congrArg (Tree.ok _) htree).mpr ?_
  clear htree
  simp [Tree.ok, tyd_inj, packAV, AV.same, AV.same.sameL, encV, encS, enc, inK, Nd.ok, List.headD_cons, List.cons_append, List.nil_append, List.append_nil, true_and, and_true, Bool.true_and, Bool.and_true]
def C_Fg_1 : FuncId → Option Ct := addC 126 ct_sizeFrac C_Ff
theorem C_Fg_1_ok : COk Tryz.prog C_Fg_1 := addC_ok C_Ff_ok sat_sizeFrac

def C_Fg : FuncId → Option Ct := C_Fg_1
theorem C_Fg_ok : COk Tryz.prog C_Fg := C_Fg_1_ok
end Go.Proofs.YtkeckmdmmbeaiaaGreatDoor
