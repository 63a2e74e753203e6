/- Contracts: names of pitches, of the program and the reference; the law on names of pitches. Conditions: as each says. -/
import Derived.Test.YtkeckmdmmbeaiaaDoorPb
import Derived.Test.YtkeckmdmmbeaiaaDoorUt
set_option linter.unusedSimpArgs false
set_option linter.unusedVariables false
namespace Go.Proofs.YtkeckmdmmbeaiaaDoor
open Go.RowKit Sx
set_option maxRecDepth 100000
set_option maxHeartbeats 1000000
def stepL : List UInt8 := [99, 100, 101, 102, 103, 97, 98]
/-- The name of a pitch. -/
def pitT (p : tPitch.den) : List UInt8 := cutL stepL p.1 (p.1 + 1) ++ Go.Lib.repeatL [35] (Int.toNat p.2.1) ++ Go.Lib.repeatL [98] (0 - p.2.1 : Int).toNat ++ decT p.2.2
def C_UaB : FuncId → Option Ct := addC 56 ct_Decimal (addC 106 ct_l01Dec (addC 55 ct_times (addC 105 ct_l16Times C_Pb)))
theorem C_UaB_ok : COk Tryd.prog C_UaB := addC_ok (addC_ok (addC_ok (addC_ok C_Pb_ok sat_l16Times) sat_times) sat_l01Dec) sat_Decimal
def ct_l16Text : Ct := ctOf [.s tPitch] (fun (((a : Int), (b : Int), (c : Int)), _) => .p (okP a b c = true)) (fun (((a : Int), (b : Int), (c : Int)), _) => .str (pitT (a, b, c)))
set_option maxHeartbeats 1000000 in
theorem sat_l16Text : Sat Tryd.prog 53 ct_l16Text := by
  refine sat_typed (C := C_UaB) (L := noL) (wr := false) mixedOk Tryd.func53 C_UaB_ok (loops0 (by kernel_rfl)) (fun _ => by first | rfl | (simp [ownsOf, ownsOf.ownsL, enc, encV, encS])) fun x hp => ?_
  obtain ⟨⟨(a : Int), (b : Int), (c : Int)⟩, _⟩ := x
  replace hp : okP a b c = true := hp
  have htree : exFunc Tryd.prog C_UaB false noL Tryd.f53 (encA [.s tPitch] ((a, b, c), ())) = .need (inK IntKind.i64 (a + (1 : Int))) (.need ((0 : Int) ≤ a ∧ a ≤ a + (1 : Int) ∧ a + (1 : Int) ≤ (↑#[(99 : UInt8), (100 : UInt8), (101 : UInt8), (102 : UInt8), (103 : UInt8), (97 : UInt8), (98 : UInt8)].toList.length : Int)) (.need (((1 : Nat) ≤ #[(35 : UInt8)].toList.length ∧ #[(35 : UInt8)].toList.length ≤ (1000 : Nat)) ∧ (-1000 : Int) ≤ b ∧ b ≤ (1000 : Int)) (.need ((↑(cutL #[(99 : UInt8), (100 : UInt8), (101 : UInt8), (102 : UInt8), (103 : UInt8), (97 : UInt8), (98 : UInt8)].toList a (a + (1 : Int))).length : Int) + (↑(Lib.repeatL #[(35 : UInt8)].toList b.toNat).length : Int) ≤ (9223372036854775807 : Int)) (.need (inK IntKind.i64 ((0 : Int) - b)) (.need (((1 : Nat) ≤ #[(98 : UInt8)].toList.length ∧ #[(98 : UInt8)].toList.length ≤ (1000 : Nat)) ∧ (-1000 : Int) ≤ (0 : Int) - b ∧ (0 : Int) - b ≤ (1000 : Int)) (.need ((↑(cutL #[(99 : UInt8), (100 : UInt8), (101 : UInt8), (102 : UInt8), (103 : UInt8), (97 : UInt8), (98 : UInt8)].toList a (a + (1 : Int)) ++ Lib.repeatL #[(35 : UInt8)].toList b.toNat).length : Int) + (↑(Lib.repeatL #[(98 : UInt8)].toList ((0 : Int) - b).toNat).length : Int) ≤ (9223372036854775807 : Int)) (.need ((-1000000000000000000 : Int) ≤ c ∧ c ≤ (1000000000000000000 : Int)) (.need ((↑(cutL #[(99 : UInt8), (100 : UInt8), (101 : UInt8), (102 : UInt8), (103 : UInt8), (97 : UInt8), (98 : UInt8)].toList a (a + (1 : Int)) ++ Lib.repeatL #[(35 : UInt8)].toList b.toNat ++ Lib.repeatL #[(98 : UInt8)].toList ((0 : Int) - b).toNat).length : Int) + (↑(decT c).length : Int) ≤ (9223372036854775807 : Int)) (.leaf [.str (cutL #[(99 : UInt8), (100 : UInt8), (101 : UInt8), (102 : UInt8), (103 : UInt8), (97 : UInt8), (98 : UInt8)].toList a (a + (1 : Int)) ++ Lib.repeatL #[(35 : UInt8)].toList b.toNat ++ Lib.repeatL #[(98 : UInt8)].toList ((0 : Int) - b).toNat ++ decT c)]))))))))) := by kernel_rfl
  refine (congrArg (Tree.ok _) htree).mpr ?_
  clear htree
  have hb := okP_bd hp
  have e1 : #[(99 : UInt8), (100 : UInt8), (101 : UInt8), (102 : UInt8), (103 : UInt8), (97 : UInt8), (98 : UInt8)].toList = stepL := rfl
  have e2 : #[(35 : UInt8)].toList = [35] := rfl
  have e3 : #[(98 : UInt8)].toList = [98] := rfl
  have l0 : stepL.length = 7 := rfl
  have l1 : (cutL stepL a (a + 1)).length ≤ 7 := by unfold cutL; simp only [List.length_drop, List.length_take, l0]; omega
  have l1' : (cutL [(99 : UInt8), 100, 101, 102, 103, 97, 98] a (a + 1)).length ≤ 7 := l1
  have l2 := Go.Lib.repeatL_length [35] (Int.toNat b)
  have l3 := Go.Lib.repeatL_length [98] (0 - b : Int).toNat
  have l4 := decT_len (n := c) (by omega)
  simp only [Tree.ok, tyd_inj, packAV, AV.same, AV.same.sameL, encV, encS, enc, inK, Nd.ok, List.headD_cons, List.cons_append, List.nil_append, List.append_nil, true_and, and_true, Bool.true_and, Bool.and_true, e1, e2, e3, l0, pitT, List.length_append, List.length_cons, List.length_nil]
  simp only [List.length_cons, List.length_nil] at l2 l3
  repeat' first | apply And.intro | intro _
  all_goals first | omega | trivial | rfl
def C_Ua_1 : FuncId → Option Ct := addC 53 ct_l16Text C_UaB
theorem C_Ua_1_ok : COk Tryd.prog C_Ua_1 := addC_ok C_UaB_ok sat_l16Text
def ct_iPitchText : Ct := ctOf [.s tPitch] (fun _ => .tt) (fun (((a : Int), (b : Int), (c : Int)), _) => .str (if okP a b c = true then pitT (a, b, c) else []))
set_option maxHeartbeats 1000000 in
theorem sat_iPitchText : Sat Tryd.prog 14 ct_iPitchText := by
  refine sat_typed (C := C_Ua_1) (L := noL) (wr := false) mixedOk Tryd.func14 C_Ua_1_ok (loops0 (by kernel_rfl)) (fun _ => by first | rfl | (simp [ownsOf, ownsOf.ownsL, enc, encV, encS])) fun x hp => ?_
  obtain ⟨⟨(a : Int), (b : Int), (c : Int)⟩, _⟩ := x
  clear hp
  have htree : exFunc Tryd.prog C_Ua_1 false noL Tryd.f14 (encA [.s tPitch] ((a, b, c), ())) = .ite (!okP a b c) (.leaf [.str (#[].toList)]) (.need (inK IntKind.i64 (a + (1 : Int))) (.need ((0 : Int) ≤ a ∧ a ≤ a + (1 : Int) ∧ a + (1 : Int) ≤ (↑#[(99 : UInt8), (100 : UInt8), (101 : UInt8), (102 : UInt8), (103 : UInt8), (97 : UInt8), (98 : UInt8)].toList.length : Int)) (.need (((1 : Nat) ≤ #[(35 : UInt8)].toList.length ∧ #[(35 : UInt8)].toList.length ≤ (1000 : Nat)) ∧ (-1000 : Int) ≤ b ∧ b ≤ (1000 : Int)) (.need ((↑(cutL #[(99 : UInt8), (100 : UInt8), (101 : UInt8), (102 : UInt8), (103 : UInt8), (97 : UInt8), (98 : UInt8)].toList a (a + (1 : Int))).length : Int) + (↑(Lib.repeatL #[(35 : UInt8)].toList b.toNat).length : Int) ≤ (9223372036854775807 : Int)) (.need (inK IntKind.i64 ((0 : Int) - b)) (.need (((1 : Nat) ≤ #[(98 : UInt8)].toList.length ∧ #[(98 : UInt8)].toList.length ≤ (1000 : Nat)) ∧ (-1000 : Int) ≤ (0 : Int) - b ∧ (0 : Int) - b ≤ (1000 : Int)) (.need ((↑(cutL #[(99 : UInt8), (100 : UInt8), (101 : UInt8), (102 : UInt8), (103 : UInt8), (97 : UInt8), (98 : UInt8)].toList a (a + (1 : Int)) ++ Lib.repeatL #[(35 : UInt8)].toList b.toNat).length : Int) + (↑(Lib.repeatL #[(98 : UInt8)].toList ((0 : Int) - b).toNat).length : Int) ≤ (9223372036854775807 : Int)) (.need ((-9223372036854775808 : Int) ≤ c ∧ c ≤ (9223372036854775807 : Int)) (.need ((↑(cutL #[(99 : UInt8), (100 : UInt8), (101 : UInt8), (102 : UInt8), (103 : UInt8), (97 : UInt8), (98 : UInt8)].toList a (a + (1 : Int)) ++ Lib.repeatL #[(35 : UInt8)].toList b.toNat ++ Lib.repeatL #[(98 : UInt8)].toList ((0 : Int) - b).toNat).length : Int) + (↑(decT c).length : Int) ≤ (9223372036854775807 : Int)) (.leaf [.str (cutL #[(99 : UInt8), (100 : UInt8), (101 : UInt8), (102 : UInt8), (103 : UInt8), (97 : UInt8), (98 : UInt8)].toList a (a + (1 : Int)) ++ Lib.repeatL #[(35 : UInt8)].toList b.toNat ++ Lib.repeatL #[(98 : UInt8)].toList ((0 : Int) - b).toNat ++ decT c)])))))))))) := by kernel_rfl
  refine (congrArg (Tree.ok _) htree).mpr ?_
  clear htree
  cases hk : okP a b c
  · simp only [Tree.ok, tyd_inj, packAV, AV.same, AV.same.sameL, encV, encS, enc, inK, Nd.ok, List.headD_cons, List.cons_append, List.nil_append, List.append_nil, true_and, and_true, Bool.true_and, Bool.and_true, hk]
    simp
  have hb := okP_bd hk
  have e1 : #[(99 : UInt8), (100 : UInt8), (101 : UInt8), (102 : UInt8), (103 : UInt8), (97 : UInt8), (98 : UInt8)].toList = stepL := rfl
  have e2 : #[(35 : UInt8)].toList = [35] := rfl
  have e3 : #[(98 : UInt8)].toList = [98] := rfl
  have l0 : stepL.length = 7 := rfl
  have l1 : (cutL stepL a (a + 1)).length ≤ 7 := by unfold cutL; simp only [List.length_drop, List.length_take, l0]; omega
  have l1' : (cutL [(99 : UInt8), 100, 101, 102, 103, 97, 98] a (a + 1)).length ≤ 7 := l1
  have l2 := Go.Lib.repeatL_length [35] (Int.toNat b)
  have l3 := Go.Lib.repeatL_length [98] (0 - b : Int).toNat
  have l4 := decT_len (n := c) (by omega)
  simp only [Tree.ok, tyd_inj, packAV, AV.same, AV.same.sameL, encV, encS, enc, inK, Nd.ok, List.headD_cons, List.cons_append, List.nil_append, List.append_nil, true_and, and_true, Bool.true_and, Bool.and_true, hk, e1, e2, e3, l0, pitT, List.length_append, List.length_cons, List.length_nil, Bool.not_true, Bool.false_eq_true, if_true]
  simp only [List.length_cons, List.length_nil] at l2 l3
  repeat' first | apply And.intro | intro _
  all_goals first | omega | trivial | rfl | contradiction
def C_Ua_2 : FuncId → Option Ct := addC 14 ct_iPitchText C_Ua_1
theorem C_Ua_2_ok : COk Tryd.prog C_Ua_2 := addC_ok C_Ua_1_ok sat_iPitchText
def ct_sPitchText : Ct := ctOf [.s tPitch] (fun _ => .tt) (fun (((a : Int), (b : Int), (c : Int)), _) => .str (if okP a b c = true then pitT (a, b, c) else []))
set_option maxHeartbeats 1000000 in
theorem sat_sPitchText : Sat Tryd.prog 12 ct_sPitchText := by
  refine sat_typed (C := C_Ua_2) (L := noL) (wr := false) mixedOk Tryd.func12 C_Ua_2_ok (loops0 (by kernel_rfl)) (fun _ => by first | rfl | (simp [ownsOf, ownsOf.ownsL, enc, encV, encS])) fun x hp => ?_
  obtain ⟨⟨(a : Int), (b : Int), (c : Int)⟩, _⟩ := x
  clear hp
  have htree : exFunc Tryd.prog C_Ua_2 false noL Tryd.f12 (encA [.s tPitch] ((a, b, c), ())) = .ite (!okP a b c) (.leaf [.str (#[].toList)]) (.need (okP a b c = true) (.leaf [.str (pitT (a, b, c))])) := by kernel_rfl
  refine (congrArg (Tree.ok _) htree).mpr ?_
  clear htree
  cases hk : okP a b c
  · simp only [Tree.ok, tyd_inj, packAV, AV.same, AV.same.sameL, encV, encS, enc, inK, Nd.ok, List.headD_cons, List.cons_append, List.nil_append, List.append_nil, true_and, and_true, Bool.true_and, Bool.and_true, hk]
    simp
  simp only [Tree.ok, tyd_inj, packAV, AV.same, AV.same.sameL, encV, encS, enc, inK, Nd.ok, List.headD_cons, List.cons_append, List.nil_append, List.append_nil, true_and, and_true, Bool.true_and, Bool.and_true, hk, Bool.not_true, Bool.false_eq_true, if_true]
  repeat' first | apply And.intro | intro _
  all_goals first | trivial | rfl | contradiction
def C_Ua_3 : FuncId → Option Ct := addC 12 ct_sPitchText C_Ua_2
theorem C_Ua_3_ok : COk Tryd.prog C_Ua_3 := addC_ok C_Ua_2_ok sat_sPitchText
def ct_lawPitchText : Ct := ctOf [.s tPitch] (fun _ => .tt) (fun (((a : Int), (b : Int), (c : Int)), _) => .bool true)
set_option maxHeartbeats 1000000 in
theorem sat_lawPitchText : Sat Tryd.prog 3 ct_lawPitchText := by
  refine sat_typed (C := C_Ua_3) (L := noL) (wr := false) mixedOk Tryd.func3 C_Ua_3_ok (loops0 (by kernel_rfl)) (fun _ => by first | rfl | (simp [ownsOf, ownsOf.ownsL, enc, encV, encS])) fun x hp => ?_
  obtain ⟨⟨(a : Int), (b : Int), (c : Int)⟩, _⟩ := x
  clear hp
  have htree : exFunc Tryd.prog C_Ua_3 false noL Tryd.f3 (encA [.s tPitch] ((a, b, c), ())) = .ite (!decide ((if okP a b c = true then pitT (a, b, c) else []) = if okP a b c = true then pitT (a, b, c) else [])) (.leaf [.lit false]) (.leaf [.lit true]) := by kernel_rfl
  refine (congrArg (Tree.ok _) htree).mpr ?_
  clear htree
  simp only [Tree.ok, tyd_inj, packAV, AV.same, AV.same.sameL, encV, encS, enc, inK, Nd.ok, List.headD_cons, List.cons_append, List.nil_append, List.append_nil, true_and, and_true, Bool.true_and, Bool.and_true]
  repeat' first | apply And.intro | intro _
  all_goals first | trivial | rfl | contradiction | (simp_all; done)
def C_Ua_4 : FuncId → Option Ct := addC 3 ct_lawPitchText C_Ua_3
theorem C_Ua_4_ok : COk Tryd.prog C_Ua_4 := addC_ok C_Ua_3_ok sat_lawPitchText

def C_Ua : FuncId → Option Ct := C_Ua_4
theorem C_Ua_ok : COk Tryd.prog C_Ua := C_Ua_4_ok
end Go.Proofs.YtkeckmdmmbeaiaaDoor
