/- Contracts: names of intervals, of the program and the reference; the law on names of intervals. Conditions: as each says. -/
import Derived.Test.YtkeckmdmmbeaiaaGreatDoorUa
set_option linter.unusedSimpArgs false
set_option linter.unusedVariables false
namespace Go.Proofs.YtkeckmdmmbeaiaaGreatDoor
open Go.RowKit Sx
set_option maxRecDepth 100000
set_option maxHeartbeats 1000000
def qualI (a b : Int) : List UInt8 :=
  if 0 < b - natF a then Go.Lib.repeatL [65] (b - natF a).toNat
  else if b - natF a = 0 then (if a % 7 = 0 ∨ a % 7 = 3 ∨ a % 7 = 4 then [80] else [77])
  else if a % 7 = 0 ∨ a % 7 = 3 ∨ a % 7 = 4 then Go.Lib.repeatL [100] (-(b - natF a)).toNat
  else if b - natF a = -1 then [109] else Go.Lib.repeatL [100] (-(b - natF a) - 1).toNat
def nameI (a b : Int) : List UInt8 := if a < 0 then [45] ++ (qualI (-a) (-b) ++ decT (-a + 1)) else qualI a b ++ decT (a + 1)
theorem qualI_len {a b : Int} (h : -10 ≤ b - natF a ∧ b - natF a ≤ 10) : (qualI a b).length ≤ 10 := by
  have r := fun s n => Go.Lib.repeatL_length s n
  unfold qualI
  repeat' split
  all_goals first | decide | (rw [r]; simp only [List.length_cons, List.length_nil]; omega)
theorem okI_over {a b : Int} (h : okI a b = true) (ha : 0 ≤ a) : -3 ≤ b - natF a ∧ b - natF a ≤ 3 := by
  simp only [okI, Bool.and_eq_true, inB_iff, overF] at h
  rw [if_neg (by omega)] at h
  exact h.2.2
theorem okI_neg {a b : Int} (h : okI a b = true) : okI (-a) (-b) = true := by
  have e0 : natF 0 = 0 := by decide
  simp only [okI, Bool.and_eq_true, inB_iff, overF] at h ⊢
  obtain ⟨h1, h2, h3⟩ := h
  refine ⟨by omega, by omega, ?_⟩
  by_cases h0 : a = 0
  · subst h0
    simp only [Int.neg_zero, e0] at h3 ⊢
    split at h3 <;> split <;> omega
  · by_cases ha : a < 0
    · rw [if_pos ha] at h3
      rw [if_neg (by omega)]
      exact h3
    · rw [if_neg ha] at h3
      rw [if_pos (by omega), Int.neg_neg, Int.neg_neg]
      exact h3
def ct_quality : Ct := ctOf [.s tIv] (fun (((a : Int), (b : Int)), _) => .p ((0 ≤ a ∧ a ≤ 28) ∧ -10 ≤ b - natF a ∧ b - natF a ≤ 10)) (fun (((a : Int), (b : Int)), _) => .str (qualI a b))
set_option maxHeartbeats 1000000 in
theorem sat_quality : Sat Tryz.prog 96 ct_quality := by
  refine sat_typed (C := C_Ua) (L := noL) (wr := false) mixedOk Tryz.func96 C_Ua_ok (loops0 (by kernel_rfl)) (fun _ => by first | rfl | (simp [ownsOf, ownsOf.ownsL, enc, encV, encS])) fun x hp => ?_
  obtain ⟨⟨(a : Int), (b : Int)⟩, _⟩ := x
  replace hp : (0 ≤ a ∧ a ≤ 28) ∧ -10 ≤ b - natF a ∧ b - natF a ≤ 10 := hp
  have htree : exFunc Tryz.prog C_Ua false noL Tryz.f96 (encA [.s tIv] ((a, b), ())) = .need ((0 : Int) ≤ a ∧ a ≤ (1000 : Int)) (.need (inK IntKind.i64 (b - natF a)) (.need ((7 : Int) ≠ (0 : Int)) (.ite (a.tmod (7 : Int) == (0 : Int)) (.ite (decide ((0 : Int) < b - natF a)) (.need (((1 : Nat) ≤ #[(65 : UInt8)].toList.length ∧ #[(65 : UInt8)].toList.length ≤ (1000 : Nat)) ∧ (-1000 : Int) ≤ b - natF a ∧ b - natF a ≤ (1000 : Int)) (.leaf [.str (Lib.repeatL #[(65 : UInt8)].toList (b - natF a).toNat)])) (.ite (b - natF a == (0 : Int)) (.leaf [.str (#[(80 : UInt8)].toList)]) (.need (inK IntKind.i64 ((0 : Int) - (b - natF a))) (.need (((1 : Nat) ≤ #[(100 : UInt8)].toList.length ∧ #[(100 : UInt8)].toList.length ≤ (1000 : Nat)) ∧ (-1000 : Int) ≤ (0 : Int) - (b - natF a) ∧ (0 : Int) - (b - natF a) ≤ (1000 : Int)) (.leaf [.str (Lib.repeatL #[(100 : UInt8)].toList ((0 : Int) - (b - natF a)).toNat)]))))) (.need ((7 : Int) ≠ (0 : Int)) (.ite (a.tmod (7 : Int) == (3 : Int)) (.ite (decide ((0 : Int) < b - natF a)) (.need (((1 : Nat) ≤ #[(65 : UInt8)].toList.length ∧ #[(65 : UInt8)].toList.length ≤ (1000 : Nat)) ∧ (-1000 : Int) ≤ b - natF a ∧ b - natF a ≤ (1000 : Int)) (.leaf [.str (Lib.repeatL #[(65 : UInt8)].toList (b - natF a).toNat)])) (.ite (b - natF a == (0 : Int)) (.leaf [.str (#[(80 : UInt8)].toList)]) (.need (inK IntKind.i64 ((0 : Int) - (b - natF a))) (.need (((1 : Nat) ≤ #[(100 : UInt8)].toList.length ∧ #[(100 : UInt8)].toList.length ≤ (1000 : Nat)) ∧ (-1000 : Int) ≤ (0 : Int) - (b - natF a) ∧ (0 : Int) - (b - natF a) ≤ (1000 : Int)) (.leaf [.str (Lib.repeatL #[(100 : UInt8)].toList ((0 : Int) - (b - natF a)).toNat)]))))) (.need ((7 : Int) ≠ (0 : Int)) (.ite (decide ((0 : Int) < b - natF a)) (.need (((1 : Nat) ≤ #[(65 : UInt8)].toList.length ∧ #[(65 : UInt8)].toList.length ≤ (1000 : Nat)) ∧ (-1000 : Int) ≤ b - natF a ∧ b - natF a ≤ (1000 : Int)) (.leaf [.str (Lib.repeatL #[(65 : UInt8)].toList (b - natF a).toNat)])) (.ite (a.tmod (7 : Int) == (4 : Int)) (.ite (b - natF a == (0 : Int)) (.leaf [.str (#[(80 : UInt8)].toList)]) (.ite (a.tmod (7 : Int) == (4 : Int)) (.need (inK IntKind.i64 ((0 : Int) - (b - natF a))) (.need (((1 : Nat) ≤ #[(100 : UInt8)].toList.length ∧ #[(100 : UInt8)].toList.length ≤ (1000 : Nat)) ∧ (-1000 : Int) ≤ (0 : Int) - (b - natF a) ∧ (0 : Int) - (b - natF a) ≤ (1000 : Int)) (.leaf [.str (Lib.repeatL #[(100 : UInt8)].toList ((0 : Int) - (b - natF a)).toNat)]))) (.ite (b - natF a == (0 : Int)) (.leaf [.str (#[(77 : UInt8)].toList)]) (.ite (b - natF a == (-1 : Int)) (.leaf [.str (#[(109 : UInt8)].toList)]) (.need (inK IntKind.i64 ((0 : Int) - (b - natF a))) (.need (inK IntKind.i64 ((0 : Int) - (b - natF a) - (1 : Int))) (.need (((1 : Nat) ≤ #[(100 : UInt8)].toList.length ∧ #[(100 : UInt8)].toList.length ≤ (1000 : Nat)) ∧ (-1000 : Int) ≤ (0 : Int) - (b - natF a) - (1 : Int) ∧ (0 : Int) - (b - natF a) - (1 : Int) ≤ (1000 : Int)) (.leaf [.str (Lib.repeatL #[(100 : UInt8)].toList ((0 : Int) - (b - natF a) - (1 : Int)).toNat)])))))))) (.ite (a.tmod (7 : Int) == (4 : Int)) (.need (inK IntKind.i64 ((0 : Int) - (b - natF a))) (.need (((1 : Nat) ≤ #[(100 : UInt8)].toList.length ∧ #[(100 : UInt8)].toList.length ≤ (1000 : Nat)) ∧ (-1000 : Int) ≤ (0 : Int) - (b - natF a) ∧ (0 : Int) - (b - natF a) ≤ (1000 : Int)) (.leaf [.str (Lib.repeatL #[(100 : UInt8)].toList ((0 : Int) - (b - natF a)).toNat)]))) (.ite (b - natF a == (0 : Int)) (.leaf [.str (#[(77 : UInt8)].toList)]) (.ite (b - natF a == (-1 : Int)) (.leaf [.str (#[(109 : UInt8)].toList)]) (.need (inK IntKind.i64 ((0 : Int) - (b - natF a))) (.need (inK IntKind.i64 ((0 : Int) - (b - natF a) - (1 : Int))) (.need (((1 : Nat) ≤ #[(100 : UInt8)].toList.length ∧ #[(100 : UInt8)].toList.length ≤ (1000 : Nat)) ∧ (-1000 : Int) ≤ (0 : Int) - (b - natF a) - (1 : Int) ∧ (0 : Int) - (b - natF a) - (1 : Int) ≤ (1000 : Int)) (.leaf [.str (Lib.repeatL #[(100 : UInt8)].toList ((0 : Int) - (b - natF a) - (1 : Int)).toNat)]))))))))))))))) := by kernel_rfl
  refine (congrArg (Tree.ok _) htree).mpr ?_
  clear htree
  have nb := natF_bd a (by omega) (by omega)
  have e7 : Int.tmod a 7 = a % 7 := Int.tmod_eq_emod_of_nonneg (by omega)
  have s1 : #[(65 : UInt8)].toList = [65] := rfl
  have s2 : #[(100 : UInt8)].toList = [100] := rfl
  simp only [Tree.ok, tyd_inj, packAV, AV.same, AV.same.sameL, encV, encS, enc, inK, Nd.ok, List.headD_cons, List.cons_append, List.nil_append, List.append_nil, true_and, and_true, Bool.true_and, Bool.and_true, e7, s1, s2, qualI, List.length_cons, List.length_nil, decide_eq_true_eq, decide_eq_false_iff_not, beq_iff_eq, beq_eq_false_iff_ne, ne_eq]
  generalize a % 7 = r at *
  generalize b - natF a = d at *
  repeat' first | apply And.intro | intro _
  all_goals first | omega | trivial | contradiction | ((repeat' (first | rw [if_pos (by omega)] | rw [if_neg (by omega)])) <;> first | rfl | (congr 1; omega))
def C_Ub_1 : FuncId → Option Ct := addC 96 ct_quality C_Ua
theorem C_Ub_1_ok : COk Tryz.prog C_Ub_1 := addC_ok C_Ua_ok sat_quality
def ct_iNameP : Ct := ctOf [.s tIv] (fun (((a : Int), (b : Int)), _) => .p (0 ≤ a)) (fun (((a : Int), (b : Int)), _) => .str (if okI a b = true then qualI a b ++ decT (a + 1) else []))
set_option maxHeartbeats 1000000 in
theorem sat_iNameP : Sat Tryz.prog 39 ct_iNameP := by
  refine sat_typed (C := C_Ub_1) (L := noL) (wr := false) mixedOk Tryz.func39 C_Ub_1_ok (loops0 (by kernel_rfl)) (fun _ => by first | rfl | (simp [ownsOf, ownsOf.ownsL, enc, encV, encS])) fun x hp => ?_
  obtain ⟨⟨(a : Int), (b : Int)⟩, _⟩ := x
  replace hp : 0 ≤ a := hp
  have htree : exFunc Tryz.prog C_Ub_1 false noL Tryz.f39 (encA [.s tIv] ((a, b), ())) = .ite (!okI a b) (.leaf [.str (#[].toList)]) (.ite (decide (a < (0 : Int))) (.need (((-1000 : Int) ≤ a ∧ a ≤ (1000 : Int)) ∧ (-1000 : Int) ≤ b ∧ b ≤ (1000 : Int)) (.need (([.fn 39, .agg [.int .i64 (-a), .int .i64 (-b)]] : List AV) = [.fn 39, .agg [.int .i64 (-a), .int .i64 (-b)]]) (.stuck 1002))) (.need (((0 : Int) ≤ a ∧ a ≤ (28 : Int)) ∧ (-10 : Int) ≤ b - natF a ∧ b - natF a ≤ (10 : Int)) (.need (inK IntKind.i64 (a + (1 : Int))) (.need ((-9223372036854775808 : Int) ≤ a + (1 : Int) ∧ a + (1 : Int) ≤ (9223372036854775807 : Int)) (.need ((↑(qualI a b).length : Int) + (↑(decT (a + (1 : Int))).length : Int) ≤ (9223372036854775807 : Int)) (.leaf [.str (qualI a b ++ decT (a + (1 : Int)))])))))) := by kernel_rfl
  refine (congrArg (Tree.ok _) htree).mpr ?_
  clear htree
  cases hk : okI a b
  · simp only [Tree.ok, tyd_inj, packAV, AV.same, AV.same.sameL, encV, encS, enc, inK, Nd.ok, List.headD_cons, List.cons_append, List.nil_append, List.append_nil, true_and, and_true, Bool.true_and, Bool.and_true, hk]
    simp
  have hb := okI_bd hk
  have hd := okI_over hk hp
  have l1 := qualI_len (a := a) (b := b) (by omega)
  have l2 := decT_len (n := a + 1) (by omega)
  simp only [Tree.ok, tyd_inj, packAV, AV.same, AV.same.sameL, encV, encS, enc, inK, Nd.ok, List.headD_cons, List.cons_append, List.nil_append, List.append_nil, true_and, and_true, Bool.true_and, Bool.and_true, hk, decide_eq_true_eq, decide_eq_false_iff_not, Bool.not_true, Bool.false_eq_true, false_implies, true_implies, if_true]
  refine ⟨fun h => absurd h (by omega), fun _ => ?_⟩
  repeat' first | apply And.intro | intro _
  all_goals first | omega | trivial | rfl | contradiction
def C_Ub_2 : FuncId → Option Ct := addC 39 ct_iNameP C_Ub_1
theorem C_Ub_2_ok : COk Tryz.prog C_Ub_2 := addC_ok C_Ub_1_ok sat_iNameP
def ct_iIntervalName : Ct := ctOf [.s tIv] (fun _ => .tt) (fun (((a : Int), (b : Int)), _) => .str (if okI a b = true then nameI a b else []))
set_option maxHeartbeats 1000000 in
theorem sat_iIntervalName : Sat Tryz.prog 39 ct_iIntervalName := by
  refine sat_typed (C := C_Ub_2) (L := noL) (wr := false) mixedOk Tryz.func39 C_Ub_2_ok (loops0 (by kernel_rfl)) (fun _ => by first | rfl | (simp [ownsOf, ownsOf.ownsL, enc, encV, encS])) fun x hp => ?_
  obtain ⟨⟨(a : Int), (b : Int)⟩, _⟩ := x
  clear hp
  have htree : exFunc Tryz.prog C_Ub_2 false noL Tryz.f39 (encA [.s tIv] ((a, b), ())) = .ite (!okI a b) (.leaf [.str (#[].toList)]) (.ite (decide (a < (0 : Int))) (.need (((-1000 : Int) ≤ a ∧ a ≤ (1000 : Int)) ∧ (-1000 : Int) ≤ b ∧ b ≤ (1000 : Int)) (.need ((0 : Int) ≤ -a) (.need ((↑#[(45 : UInt8)].toList.length : Int) + (↑(if okI (-a) (-b) = true then qualI (-a) (-b) ++ decT (-a + (1 : Int)) else []).length : Int) ≤ (9223372036854775807 : Int)) (.leaf [.str (#[(45 : UInt8)].toList ++ if okI (-a) (-b) = true then qualI (-a) (-b) ++ decT (-a + (1 : Int)) else [])])))) (.need (((0 : Int) ≤ a ∧ a ≤ (28 : Int)) ∧ (-10 : Int) ≤ b - natF a ∧ b - natF a ≤ (10 : Int)) (.need (inK IntKind.i64 (a + (1 : Int))) (.need ((-9223372036854775808 : Int) ≤ a + (1 : Int) ∧ a + (1 : Int) ≤ (9223372036854775807 : Int)) (.need ((↑(qualI a b).length : Int) + (↑(decT (a + (1 : Int))).length : Int) ≤ (9223372036854775807 : Int)) (.leaf [.str (qualI a b ++ decT (a + (1 : Int)))])))))) := by kernel_rfl
  refine (congrArg (Tree.ok _) htree).mpr ?_
  clear htree
  cases hk : okI a b
  · simp only [Tree.ok, tyd_inj, packAV, AV.same, AV.same.sameL, encV, encS, enc, inK, Nd.ok, List.headD_cons, List.cons_append, List.nil_append, List.append_nil, true_and, and_true, Bool.true_and, Bool.and_true, hk]
    simp
  have hb := okI_bd hk
  simp only [Tree.ok, tyd_inj, packAV, AV.same, AV.same.sameL, encV, encS, enc, inK, Nd.ok, List.headD_cons, List.cons_append, List.nil_append, List.append_nil, true_and, and_true, Bool.true_and, Bool.and_true, hk, decide_eq_true_eq, decide_eq_false_iff_not, Bool.not_true, Bool.false_eq_true, false_implies, true_implies, if_true]
  refine ⟨fun h => ?_, fun h => ?_⟩
  · have hk2 := okI_neg hk
    have hd := okI_over hk2 (by omega)
    have l1 := qualI_len (a := -a) (b := -b) (by omega)
    have l2 := decT_len (n := -a + 1) (by omega)
    unfold nameI
    simp only [if_pos h, hk2, if_true, List.length_append]
    repeat' first | apply And.intro | intro _
    all_goals first | omega | trivial | rfl | contradiction | (simp; omega)
  · have hd := okI_over hk (by omega)
    have l1 := qualI_len (a := a) (b := b) (by omega)
    have l2 := decT_len (n := a + 1) (by omega)
    unfold nameI
    rw [if_neg h]
    repeat' first | apply And.intro | intro _
    all_goals first | omega | trivial | rfl | contradiction
def C_Ub_3 : FuncId → Option Ct := addC 39 ct_iIntervalName C_Ub_2
theorem C_Ub_3_ok : COk Tryz.prog C_Ub_3 := addC_ok C_Ub_2_ok sat_iIntervalName

def C_Ub : FuncId → Option Ct := C_Ub_3
theorem C_Ub_ok : COk Tryz.prog C_Ub := C_Ub_3_ok
end Go.Proofs.YtkeckmdmmbeaiaaGreatDoor
