/- Contracts: pitches read from their names, by the program and the reference; the law on that. Conditions: as each says. -/
import Derived.Test.YtkeckmdmmbeaiaaGreatDoorUqL
import Derived.Test.YtkeckmdmmbeaiaaGreatDoorUe
import Derived.Test.YtkeckmdmmbeaiaaGreatDoorXh
set_option linter.unusedSimpArgs false
set_option linter.unusedVariables false
namespace Go.Proofs.YtkeckmdmmbeaiaaGreatDoor
open Go.RowKit Sx
set_option maxRecDepth 100000
set_option maxHeartbeats 1000000
def C_UqB : FuncId → Option Ct := addC 49 ct_ReadDecimal (addC 83 ct_IndexByte (addC 84 ct_TrimLeft (addC 85 ct_Count C_Ua)))
theorem C_UqB_ok : COk Tryz.prog C_UqB := addC_ok (addC_ok (addC_ok (addC_ok C_Ua_ok sat_Count) sat_TrimLeft) sat_IndexByte) sat_ReadDecimal
theorem cut_tail (b : UInt8) (t : List UInt8) : cutL (b :: t) 1 (((b :: t).length : Nat) : Int) = t := by simp [cutL]
theorem okB (b : UInt8) : ((b.toNat : Nat) : Int).toNat.toUInt8 = b := by simp
def ct_iReadPitch : Ct := ctOf [.v .str] (fun ((s : List UInt8), _) => .p (s.length ≤ 2000000)) (fun ((s : List UInt8), _) => .tup [.agg (enc tPitch (rdPitI s).1), .bool (rdPitI s).2])
set_option maxHeartbeats 1000000 in
theorem sat_iReadPitch : Sat Tryz.prog 33 ct_iReadPitch := by
  refine sat_typed (C := C_UqB) (L := noL) (wr := false) mixedOk Tryz.func33 C_UqB_ok (loops0 (by kernel_rfl)) (fun _ => by first | rfl | (simp [ownsOf, ownsOf.ownsL, enc, encV, encS])) fun x hp => ?_
  obtain ⟨(s : List UInt8), _⟩ := x
  replace hp : s.length ≤ 2000000 := hp
  have htree : exFunc Tryz.prog C_UqB false noL Tryz.f33 (encA [.v .str] (s, ())) = .ite (decide (s = ([] : List UInt8))) (.leaf [.agg [.int .i64 ((0 : Int)), .int .i64 ((0 : Int)), .int .i64 ((0 : Int))], .lit false]) (.need ((0 : Int) ≤ (0 : Int) ∧ (0 : Int) < (↑s.length : Int)) (.need ((0 : Int) ≤ (1 : Int) ∧ (1 : Int) ≤ (↑s.length : Int)) (.need (#[(35 : UInt8), (98 : UInt8)].toList = [(35 : UInt8), (98 : UInt8)]) (.need (inK IntKind.i64 ((↑(cutL s (1 : Int) (↑s.length : Int)).length : Int) - (↑(List.dropWhile (fun (b : UInt8) => decide (b = (35 : UInt8) ∨ b = (98 : UInt8))) (cutL s (1 : Int) (↑s.length : Int))).length : Int))) (.need ((0 : Int) ≤ (↑(cutL s (1 : Int) (↑s.length : Int)).length : Int) - (↑(List.dropWhile (fun (b : UInt8) => decide (b = (35 : UInt8) ∨ b = (98 : UInt8))) (cutL s (1 : Int) (↑s.length : Int))).length : Int) ∧ (↑(cutL s (1 : Int) (↑s.length : Int)).length : Int) - (↑(List.dropWhile (fun (b : UInt8) => decide (b = (35 : UInt8) ∨ b = (98 : UInt8))) (cutL s (1 : Int) (↑s.length : Int))).length : Int) ≤ (↑(cutL s (1 : Int) (↑s.length : Int)).length : Int)) (.need (#[(35 : UInt8)].toList.length = (1 : Nat)) (.need (#[(98 : UInt8)].toList.length = (1 : Nat)) (.need (inK IntKind.i64 ((↑(Lib.countByte (cutL (cutL s (1 : Int) (↑s.length : Int)) (0 : Int) ((↑(cutL s (1 : Int) (↑s.length : Int)).length : Int) - (↑(List.dropWhile (fun (b : UInt8) => decide (b = (35 : UInt8) ∨ b = (98 : UInt8))) (cutL s (1 : Int) (↑s.length : Int))).length : Int))) (#[(35 : UInt8)].toList.headD (0 : UInt8))) : Int) - (↑(Lib.countByte (cutL (cutL s (1 : Int) (↑s.length : Int)) (0 : Int) ((↑(cutL s (1 : Int) (↑s.length : Int)).length : Int) - (↑(List.dropWhile (fun (b : UInt8) => decide (b = (35 : UInt8) ∨ b = (98 : UInt8))) (cutL s (1 : Int) (↑s.length : Int))).length : Int))) (#[(98 : UInt8)].toList.headD (0 : UInt8))) : Int))) (.need ((List.dropWhile (fun (b : UInt8) => decide (b = (35 : UInt8) ∨ b = (98 : UInt8))) (cutL s (1 : Int) (↑s.length : Int))).length ≤ (100000000 : Nat)) (.ite (!(readD (List.dropWhile (fun (b : UInt8) => decide (b = (35 : UInt8) ∨ b = (98 : UInt8))) (cutL s (1 : Int) (↑s.length : Int)))).snd) (.leaf [.agg [.int .i64 ((0 : Int)), .int .i64 ((0 : Int)), .int .i64 ((0 : Int))], .lit false]) (.ite (!okP (Lib.indexByte #[(99 : UInt8), (100 : UInt8), (101 : UInt8), (102 : UInt8), (103 : UInt8), (97 : UInt8), (98 : UInt8)].toList (↑(s.getD (Int.toNat (0 : Int)) (0 : UInt8)).toNat : Int).toNat.toUInt8) ((↑(Lib.countByte (cutL (cutL s (1 : Int) (↑s.length : Int)) (0 : Int) ((↑(cutL s (1 : Int) (↑s.length : Int)).length : Int) - (↑(List.dropWhile (fun (b : UInt8) => decide (b = (35 : UInt8) ∨ b = (98 : UInt8))) (cutL s (1 : Int) (↑s.length : Int))).length : Int))) (#[(35 : UInt8)].toList.headD (0 : UInt8))) : Int) - (↑(Lib.countByte (cutL (cutL s (1 : Int) (↑s.length : Int)) (0 : Int) ((↑(cutL s (1 : Int) (↑s.length : Int)).length : Int) - (↑(List.dropWhile (fun (b : UInt8) => decide (b = (35 : UInt8) ∨ b = (98 : UInt8))) (cutL s (1 : Int) (↑s.length : Int))).length : Int))) (#[(98 : UInt8)].toList.headD (0 : UInt8))) : Int)) (readD (List.dropWhile (fun (b : UInt8) => decide (b = (35 : UInt8) ∨ b = (98 : UInt8))) (cutL s (1 : Int) (↑s.length : Int)))).fst) (.leaf [.agg [.int .i64 ((0 : Int)), .int .i64 ((0 : Int)), .int .i64 ((0 : Int))], .lit false]) (.ite (!decide ((if okP (Lib.indexByte #[(99 : UInt8), (100 : UInt8), (101 : UInt8), (102 : UInt8), (103 : UInt8), (97 : UInt8), (98 : UInt8)].toList (↑(s.getD (Int.toNat (0 : Int)) (0 : UInt8)).toNat : Int).toNat.toUInt8) ((↑(Lib.countByte (cutL (cutL s (1 : Int) (↑s.length : Int)) (0 : Int) ((↑(cutL s (1 : Int) (↑s.length : Int)).length : Int) - (↑(List.dropWhile (fun (b : UInt8) => decide (b = (35 : UInt8) ∨ b = (98 : UInt8))) (cutL s (1 : Int) (↑s.length : Int))).length : Int))) (#[(35 : UInt8)].toList.headD (0 : UInt8))) : Int) - (↑(Lib.countByte (cutL (cutL s (1 : Int) (↑s.length : Int)) (0 : Int) ((↑(cutL s (1 : Int) (↑s.length : Int)).length : Int) - (↑(List.dropWhile (fun (b : UInt8) => decide (b = (35 : UInt8) ∨ b = (98 : UInt8))) (cutL s (1 : Int) (↑s.length : Int))).length : Int))) (#[(98 : UInt8)].toList.headD (0 : UInt8))) : Int)) (readD (List.dropWhile (fun (b : UInt8) => decide (b = (35 : UInt8) ∨ b = (98 : UInt8))) (cutL s (1 : Int) (↑s.length : Int)))).fst = true then pitT (Lib.indexByte #[(99 : UInt8), (100 : UInt8), (101 : UInt8), (102 : UInt8), (103 : UInt8), (97 : UInt8), (98 : UInt8)].toList (↑(s.getD (Int.toNat (0 : Int)) (0 : UInt8)).toNat : Int).toNat.toUInt8, (↑(Lib.countByte (cutL (cutL s (1 : Int) (↑s.length : Int)) (0 : Int) ((↑(cutL s (1 : Int) (↑s.length : Int)).length : Int) - (↑(List.dropWhile (fun (b : UInt8) => decide (b = (35 : UInt8) ∨ b = (98 : UInt8))) (cutL s (1 : Int) (↑s.length : Int))).length : Int))) (#[(35 : UInt8)].toList.headD (0 : UInt8))) : Int) - (↑(Lib.countByte (cutL (cutL s (1 : Int) (↑s.length : Int)) (0 : Int) ((↑(cutL s (1 : Int) (↑s.length : Int)).length : Int) - (↑(List.dropWhile (fun (b : UInt8) => decide (b = (35 : UInt8) ∨ b = (98 : UInt8))) (cutL s (1 : Int) (↑s.length : Int))).length : Int))) (#[(98 : UInt8)].toList.headD (0 : UInt8))) : Int), (readD (List.dropWhile (fun (b : UInt8) => decide (b = (35 : UInt8) ∨ b = (98 : UInt8))) (cutL s (1 : Int) (↑s.length : Int)))).fst) else []) = s)) (.leaf [.agg [.int .i64 ((0 : Int)), .int .i64 ((0 : Int)), .int .i64 ((0 : Int))], .lit false]) (.leaf [.agg [.int .i64 (Lib.indexByte #[(99 : UInt8), (100 : UInt8), (101 : UInt8), (102 : UInt8), (103 : UInt8), (97 : UInt8), (98 : UInt8)].toList (↑(s.getD (Int.toNat (0 : Int)) (0 : UInt8)).toNat : Int).toNat.toUInt8), .int .i64 ((↑(Lib.countByte (cutL (cutL s (1 : Int) (↑s.length : Int)) (0 : Int) ((↑(cutL s (1 : Int) (↑s.length : Int)).length : Int) - (↑(List.dropWhile (fun (b : UInt8) => decide (b = (35 : UInt8) ∨ b = (98 : UInt8))) (cutL s (1 : Int) (↑s.length : Int))).length : Int))) (#[(35 : UInt8)].toList.headD (0 : UInt8))) : Int) - (↑(Lib.countByte (cutL (cutL s (1 : Int) (↑s.length : Int)) (0 : Int) ((↑(cutL s (1 : Int) (↑s.length : Int)).length : Int) - (↑(List.dropWhile (fun (b : UInt8) => decide (b = (35 : UInt8) ∨ b = (98 : UInt8))) (cutL s (1 : Int) (↑s.length : Int))).length : Int))) (#[(98 : UInt8)].toList.headD (0 : UInt8))) : Int)), .int .i64 ((readD (List.dropWhile (fun (b : UInt8) => decide (b = (35 : UInt8) ∨ b = (98 : UInt8))) (cutL s (1 : Int) (↑s.length : Int)))).fst)], .lit true]))))))))))))) := by kernel_rfl
  refine (congrArg (Tree.ok _) htree).mpr ?_
  clear htree
  simp only [Tree.ok, tyd_inj, packAV, AV.same, AV.same.sameL, encV, encS, enc, inK, Nd.ok, List.headD_cons, List.cons_append, List.nil_append, List.append_nil, true_and, and_true, Bool.true_and, Bool.and_true]
  cases s with
  | nil => simp [rdPitI]
  | cons b t =>
    have e5 : decide (b :: t = []) = false := by simp
    have e2 : (b :: t).getD (Int.toNat 0) 0 = b := rfl
    have em : (fun b : UInt8 => decide (b = 35 ∨ b = 98)) = mark8 := rfl
    have es : [(99 : UInt8), (100 : UInt8), (101 : UInt8), (102 : UInt8), (103 : UInt8), (97 : UInt8), (98 : UInt8)] = stepL := rfl
    have e35 : #[(35 : UInt8)].toList.headD 0 = 35 := rfl
    have e98 : #[(98 : UInt8)].toList.headD 0 = 98 := rfl
    simp only [e5, cut_tail, e2, em, es, okB, e35, e98, Bool.false_eq_true, false_implies, true_implies]
    have hl : (t.dropWhile mark8).length ≤ t.length := (List.dropWhile_suffix mark8).length_le
    have ec : cutL t 0 ((t.length : Int) - ((t.dropWhile mark8).length : Int)) = t.take (t.length - (t.dropWhile mark8).length) := by
      unfold cutL
      rw [show ((t.length : Int) - ((t.dropWhile mark8).length : Int)).toNat = t.length - (t.dropWhile mark8).length by omega]
      rfl
    have hq := readD_bd (t.dropWhile mark8)
    have h35 : Go.Lib.countByte (t.take (t.length - (t.dropWhile mark8).length)) 35 ≤ t.length := Nat.le_trans List.count_le_length (by rw [List.length_take]; omega)
    have h98 : Go.Lib.countByte (t.take (t.length - (t.dropWhile mark8).length)) 98 ≤ t.length := Nat.le_trans List.count_le_length (by rw [List.length_take]; omega)
    have ea : altOf t = (Go.Lib.countByte (t.take (t.length - (t.dropWhile mark8).length)) 35 : Int) - (Go.Lib.countByte (t.take (t.length - (t.dropWhile mark8).length)) 98 : Int) := rfl
    rw [List.length_cons] at hp
    simp only [ec, ← ea, rdPitI, pitOf, List.length_cons]
    have hal : -3000000 ≤ altOf t ∧ altOf t ≤ 3000000 := by omega
    clear ec ea h35 h98
    generalize altOf t = al at *
    generalize Go.Lib.indexByte stepL b = st at *
    generalize t.dropWhile mark8 = d at *
    generalize readD d = q at *
    obtain ⟨c, w⟩ := q
    simp only at hq ⊢
    cases w
    · simp only [Bool.false_eq_true, false_and, if_false]
      repeat' first | apply And.intro | intro _
      all_goals first | omega | trivial | rfl | contradiction | (simp [Tree.ok, tyd_inj, packAV, AV.same, AV.same.sameL, encV, encS, enc, inK, Nd.ok, List.headD_cons, List.cons_append, List.nil_append, List.append_nil, true_and, and_true, Bool.true_and, Bool.and_true]; done) | (simp_all [Tree.ok, tyd_inj, packAV, AV.same, AV.same.sameL, encV, encS, enc, inK, Nd.ok, List.headD_cons, List.cons_append, List.nil_append, List.append_nil, true_and, and_true, Bool.true_and, Bool.and_true]; done) | (trace_state; fail)
    · cases hk : okP st al c
      · simp only [Bool.false_eq_true, false_and, and_false, if_false, decide_true, decide_false, Bool.not_true, Bool.not_false, Bool.true_eq_false, false_implies, true_implies, and_true, true_and, not_true_eq_false, not_false_eq_true]
        repeat' first | apply And.intro | intro _
        all_goals first | omega | trivial | rfl | contradiction | (simp [Tree.ok, tyd_inj, packAV, AV.same, AV.same.sameL, encV, encS, enc, inK, Nd.ok, List.headD_cons, List.cons_append, List.nil_append, List.append_nil, true_and, and_true, Bool.true_and, Bool.and_true]; done) | (simp_all [Tree.ok, tyd_inj, packAV, AV.same, AV.same.sameL, encV, encS, enc, inK, Nd.ok, List.headD_cons, List.cons_append, List.nil_append, List.append_nil, true_and, and_true, Bool.true_and, Bool.and_true]; done) | (trace_state; fail)
      · by_cases he : pitT (st, al, c) = b :: t
        · simp only [he, and_self, if_true, decide_true, decide_false, Bool.not_true, Bool.not_false, Bool.false_eq_true, Bool.true_eq_false, false_implies, true_implies, and_true, true_and, not_true_eq_false, not_false_eq_true]
          repeat' first | apply And.intro | intro _
          all_goals first | omega | trivial | rfl | contradiction | (simp [Tree.ok, tyd_inj, packAV, AV.same, AV.same.sameL, encV, encS, enc, inK, Nd.ok, List.headD_cons, List.cons_append, List.nil_append, List.append_nil, true_and, and_true, Bool.true_and, Bool.and_true]; done) | (simp_all [Tree.ok, tyd_inj, packAV, AV.same, AV.same.sameL, encV, encS, enc, inK, Nd.ok, List.headD_cons, List.cons_append, List.nil_append, List.append_nil, true_and, and_true, Bool.true_and, Bool.and_true]; done) | (trace_state; fail)
        · simp only [he, and_false, if_true, if_false, decide_true, decide_false, Bool.not_true, Bool.not_false, Bool.false_eq_true, Bool.true_eq_false, false_implies, true_implies, and_true, true_and, not_true_eq_false, not_false_eq_true]
          repeat' first | apply And.intro | intro _
          all_goals first | omega | trivial | rfl | contradiction | (simp [Tree.ok, tyd_inj, packAV, AV.same, AV.same.sameL, encV, encS, enc, inK, Nd.ok, List.headD_cons, List.cons_append, List.nil_append, List.append_nil, true_and, and_true, Bool.true_and, Bool.and_true]; done) | (simp_all [Tree.ok, tyd_inj, packAV, AV.same, AV.same.sameL, encV, encS, enc, inK, Nd.ok, List.headD_cons, List.cons_append, List.nil_append, List.append_nil, true_and, and_true, Bool.true_and, Bool.and_true]; done) | (trace_state; fail)
def C_Uq_1 : FuncId → Option Ct := addC 33 ct_iReadPitch C_UqB
theorem C_Uq_1_ok : COk Tryz.prog C_Uq_1 := addC_ok C_UqB_ok sat_iReadPitch

def C_Uq : FuncId → Option Ct := C_Uq_1
theorem C_Uq_ok : COk Tryz.prog C_Uq := C_Uq_1_ok
end Go.Proofs.YtkeckmdmmbeaiaaGreatDoor
