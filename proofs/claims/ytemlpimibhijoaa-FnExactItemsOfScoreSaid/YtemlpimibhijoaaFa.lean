/- Contracts: tempo maps taken over, compared, counted. Conditions: ys each says. -/
import Derived.Test.YtemlpimibhijoaaSxP
set_option linter.unusedSimpArgs false
set_option linter.unusedVariables false
namespace Go.Proofs.Ytemlpimibhijoaa
open Go.RowKit Sx
set_option maxRecDepth 100000
set_option maxHeartbeats 1000000
def ct_toFrac : Ct := ctOf [.s tFrac] (fun _ => .tt) (fun (((a : Int), (b : Int)), _) => .agg (enc tFrac (a, b)))
set_option maxHeartbeats 1000000 in
theorem sat_toFrac : Sat Try.prog 70 ct_toFrac := by
  refine sat_typed (C := noC) (L := noL) (wr := false) mixedOk Try.func70 (noC_ok Try.prog) (loops0 (by kernel_rfl)) (fun _ => by first | rfl | (simp [ownsOf, ownsOf.ownsL, enc, encV, encS])) fun x hp => ?_
  obtain ⟨⟨(a : Int), (b : Int)⟩, _⟩ := x
  clear hp
  have htree : exFunc Try.prog noC false noL Try.f70 (encA [.s tFrac] ((a, b), ())) = .leaf [.agg [.int .i64 (a), .int .i64 (b)]] := by kernel_rfl
  refine (congrArg (Tree.ok _) htree).mpr ?_
  clear htree
  simp [Tree.ok, tyd_inj, packAV, AV.same, AV.same.sameL, encV, encS, enc, inK, Nd.ok, List.headD_cons, List.cons_append, List.nil_append, List.append_nil, true_and, and_true, Bool.true_and, Bool.and_true]
def C_Fa_1 : FuncId → Option Ct := addC 70 ct_toFrac noC
theorem C_Fa_1_ok : COk Try.prog C_Fa_1 := addC_ok (noC_ok Try.prog) sat_toFrac
def ct_eqFrac : Ct := ctOf [.s tFrac, .s tFrac] (fun _ => .tt) (fun (((a : Int), (b : Int)), ((c : Int), (d : Int)), _) => .bool (decide (a = c ∧ b = d)))
set_option maxHeartbeats 1000000 in
theorem sat_eqFrac : Sat Try.prog 79 ct_eqFrac := by
  refine sat_typed (C := C_Fa_1) (L := noL) (wr := false) mixedOk Try.func79 C_Fa_1_ok (loops0 (by kernel_rfl)) (fun _ => by first | rfl | (simp [ownsOf, ownsOf.ownsL, enc, encV, encS])) fun x hp => ?_
  obtain ⟨⟨(a : Int), (b : Int)⟩, ⟨(c : Int), (d : Int)⟩, _⟩ := x
  clear hp
  have htree : exFunc Try.prog C_Fa_1 false noL Try.f79 (encA [.s tFrac, .s tFrac] ((a, b), (c, d), ())) = .ite (a != c) (.leaf [.lit false]) (.ite (b != d) (.leaf [.lit false]) (.leaf [.lit true])) := by kernel_rfl
  refine (congrArg (Tree.ok _) htree).mpr ?_
  clear htree
  simp only [Tree.ok, tyd_inj, packAV, AV.same, AV.same.sameL, encV, encS, enc, inK, Nd.ok, List.headD_cons, List.cons_append, List.nil_append, List.append_nil, true_and, and_true, Bool.true_and, Bool.and_true]
  grind
def C_Fa_2 : FuncId → Option Ct := addC 79 ct_eqFrac C_Fa_1
theorem C_Fa_2_ok : COk Try.prog C_Fa_2 := addC_ok C_Fa_1_ok sat_eqFrac

def C_Fa : FuncId → Option Ct := C_Fa_2
theorem C_Fa_ok : COk Try.prog C_Fa := C_Fa_2_ok
end Go.Proofs.Ytemlpimibhijoaa
