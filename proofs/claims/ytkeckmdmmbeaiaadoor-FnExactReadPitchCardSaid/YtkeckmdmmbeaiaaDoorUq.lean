/- Contracts: pitches read from their names, by the program and the reference; the law on that. Conditions: as each says. -/
import Derived.Test.YtkeckmdmmbeaiaaDoorUqL
import Derived.Test.YtkeckmdmmbeaiaaDoorUe
import Derived.Test.YtkeckmdmmbeaiaaDoorXh
set_option linter.unusedSimpArgs false
set_option linter.unusedVariables false
namespace Go.Proofs.YtkeckmdmmbeaiaaDoor
open Go.RowKit Sx
set_option maxRecDepth 100000
set_option maxHeartbeats 1000000
def C_UqB : FuncId → Option Ct := addC 92 ct_ReadDecimal (addC 89 ct_IndexByte (addC 90 ct_TrimLeft (addC 91 ct_Count (addC 79 ct_l01Number C_Ua))))
theorem C_UqB_ok : COk Tryd.prog C_UqB := addC_ok (addC_ok (addC_ok (addC_ok (addC_ok C_Ua_ok sat_l01Number) sat_Count) sat_TrimLeft) sat_IndexByte) sat_ReadDecimal
theorem cut_tail (b : UInt8) (t : List UInt8) : cutL (b :: t) 1 (((b :: t).length : Nat) : Int) = t := by simp [cutL]
theorem okB (b : UInt8) : ((b.toNat : Nat) : Int).toNat.toUInt8 = b := by simp
def ct_iReadPitch : Ct := ctOf [.v .str] (fun ((s : List UInt8), _) => .p (s.length ≤ 2000000)) (fun ((s : List UInt8), _) => .tup [.agg (enc tPitch (rdPitI s).1), .bool (rdPitI s).2])
set_option maxHeartbeats 1000000 in
theorem sat_iReadPitch : Sat Tryd.prog 37 ct_iReadPitch := by
  refine sat_typed (C := C_UqB) (L := noL) (wr := false) mixedOk Tryd.func37 C_UqB_ok (loops0 (by kernel_rfl)) (fun _ => by first | rfl | (simp [ownsOf, ownsOf.ownsL, enc, encV, encS])) fun x hp => ?_
  obtain ⟨(s : List UInt8), _⟩ := x
  replace hp : s.length ≤ 2000000 := hp
  have htree : exFunc Tryd.prog C_UqB false noL Tryd.f37 (encA [.v .str] (s, ())) = .ite (decide (s = ([] : List UInt8))) (.leaf [.agg [.int .i64 ((0 : Int)), .int .i64 ((0 : Int)), .int .i64 ((0 : Int))], .lit false]) (.need ((0 : Int) ≤ (0 : Int) ∧ (0 : Int) < (↑s.length : Int)) (.need ((0 : Int) ≤ (1 : Int) ∧ (1 : Int) ≤ (↑s.length : Int)) (.need (#[(35 : UInt8), (98 : UInt8)].toList = [(35 : UInt8), (98 : UInt8)]) (.need (inK IntKind.i64 ((↑(cutL s (1 : Int) (↑s.length : Int)).length : Int) - (↑(List.dropWhile (fun (b : UInt8) => decide (b = (35 : UInt8) ∨ b = (98 : UInt8))) (cutL s (1 : Int) (↑s.length : Int))).length : Int))) (.need ((0 : Int) ≤ (↑(cutL s (1 : Int) (↑s.length : Int)).length : Int) - (↑(List.dropWhile (fun (b : UInt8) => decide (b = (35 : UInt8) ∨ b = (98 : UInt8))) (cutL s (1 : Int) (↑s.length : Int))).length : Int) ∧ (↑(cutL s (1 : Int) (↑s.length : Int)).length : Int) - (↑(List.dropWhile (fun (b : UInt8) => decide (b = (35 : UInt8) ∨ b = (98 : UInt8))) (cutL s (1 : Int) (↑s.length : Int))).length : Int) ≤ (↑(cutL s (1 : Int) (↑s.length : Int)).length : Int)) (.need (#[(35 : UInt8)].toList.length = (1 : Nat)) (.need (#[(98 : UInt8)].toList.length = (1 : Nat)) (.need (inK IntKind.i64 ((↑(Lib.countByte (cutL (cutL s (1 : Int) (↑s.length : Int)) (0 : Int) ((↑(cutL s (1 : Int) (↑s.length : Int)).length : Int) - (↑(List.dropWhile (fun (b : UInt8) => decide (b = (35 : UInt8) ∨ b = (98 : UInt8))) (cutL s (1 : Int) (↑s.length : Int))).length : Int))) (#[(35 : UInt8)].toList.headD (0 : UInt8))) : Int) - (↑(Lib.countByte (cutL (cutL s (1 : Int) (↑s.length : Int)) (0 : Int) ((↑(cutL s (1 : Int) (↑s.length : Int)).length : Int) - (↑(List.dropWhile (fun (b : UInt8) => decide (b = (35 : UInt8) ∨ b = (98 : UInt8))) (cutL s (1 : Int) (↑s.length : Int))).length : Int))) (#[(98 : UInt8)].toList.headD (0 : UInt8))) : Int))) (.need ((List.dropWhile (fun (b : UInt8) => decide (b = (35 : UInt8) ∨ b = (98 : UInt8))) (cutL s (1 : Int) (↑s.length : Int))).length ≤ (100000000 : Nat)) (.ite (!(readD (List.dropWhile (fun (b : UInt8) => decide (b = (35 : UInt8) ∨ b = (98 : UInt8))) (cutL s (1 : Int) (↑s.length : Int)))).snd) (.leaf [.agg [.int .i64 ((0 : Int)), .int .i64 ((0 : Int)), .int .i64 ((0 : Int))], .lit false]) (.ite (!okP (Lib.indexByte #[(99 : UInt8), (100 : UInt8), (101 : UInt8), (102 : UInt8), (103 : UInt8), (97 : UInt8), (98 : UInt8)].toList (↑(s.getD (Int.toNat (0 : Int)) (0 : UInt8)).toNat : Int).toNat.toUInt8) ((↑(Lib.countByte (cutL (cutL s (1 : Int) (↑s.length : Int)) (0 : Int) ((↑(cutL s (1 : Int) (↑s.length : Int)).length : Int) - (↑(List.dropWhile (fun (b : UInt8) => decide (b = (35 : UInt8) ∨ b = (98 : UInt8))) (cutL s (1 : Int) (↑s.length : Int))).length : Int))) (#[(35 : UInt8)].toList.headD (0 : UInt8))) : Int) - (↑(Lib.countByte (cutL (cutL s (1 : Int) (↑s.length : Int)) (0 : Int) ((↑(cutL s (1 : Int) (↑s.length : Int)).length : Int) - (↑(List.dropWhile (fun (b : UInt8) => decide (b = (35 : UInt8) ∨ b = (98 : UInt8))) (cutL s (1 : Int) (↑s.length : Int))).length : Int))) (#[(98 : UInt8)].toList.headD (0 : UInt8))) : Int)) (readD (List.dropWhile (fun (b : UInt8) => decide (b = (35 : UInt8) ∨ b = (98 : UInt8))) (cutL s (1 : Int) (↑s.length : Int)))).fst) (.leaf [.agg [.int .i64 ((0 : Int)), .int .i64 ((0 : Int)), .int .i64 ((0 : Int))], .lit false]) (.ite (!decide ((if okP (Lib.indexByte #[(99 : UInt8), (100 : UInt8), (101 : UInt8), (102 : UInt8), (103 : UInt8), (97 : UInt8), (98 : UInt8)].toList (↑(s.getD (Int.toNat (0 : Int)) (0 : UInt8)).toNat : Int).toNat.toUInt8) ((↑(Lib.countByte (cutL (cutL s (1 : Int) (↑s.length : Int)) (0 : Int) ((↑(cutL s (1 : Int) (↑s.length : Int)).length : Int) - (↑(List.dropWhile (fun (b : UInt8) => decide (b = (35 : UInt8) ∨ b = (98 : UInt8))) (cutL s (1 : Int) (↑s.length : Int))).length : Int))) (#[(35 : UInt8)].toList.headD (0 : UInt8))) : Int) - (↑(Lib.countByte (cutL (cutL s (1 : Int) (↑s.length : Int)) (0 : Int) ((↑(cutL s (1 : Int) (↑s.length : Int)).length : Int) - (↑(List.dropWhile (fun (b : UInt8) => decide (b = (35 : UInt8) ∨ b = (98 : UInt8))) (cutL s (1 : Int) (↑s.length : Int))).length : Int))) (#[(98 : UInt8)].toList.headD (0 : UInt8))) : Int)) (readD (List.dropWhile (fun (b : UInt8) => decide (b = (35 : UInt8) ∨ b = (98 : UInt8))) (cutL s (1 : Int) (↑s.length : Int)))).fst = true then pitT (Lib.indexByte #[(99 : UInt8), (100 : UInt8), (101 : UInt8), (102 : UInt8), (103 : UInt8), (97 : UInt8), (98 : UInt8)].toList (↑(s.getD (Int.toNat (0 : Int)) (0 : UInt8)).toNat : Int).toNat.toUInt8, (↑(Lib.countByte (cutL (cutL s (1 : Int) (↑s.length : Int)) (0 : Int) ((↑(cutL s (1 : Int) (↑s.length : Int)).length : Int) - (↑(List.dropWhile (fun (b : UInt8) => decide (b = (35 : UInt8) ∨ b = (98 : UInt8))) (cutL s (1 : Int) (↑s.length : Int))).length : Int))) (#[(35 : UInt8)].toList.headD (0 : UInt8))) : Int) - (↑(Lib.countByte (cutL (cutL s (1 : Int) (↑s.length : Int)) (0 : Int) ((↑(cutL s (1 : Int) (↑s.length : Int)).length : Int) - (↑(List.dropWhile (fun (b : UInt8) => decide (b = (35 : UInt8) ∨ b = (98 : UInt8))) (cutL s (1 : Int) (↑s.length : Int))).length : Int))) (#[(98 : UInt8)].toList.headD (0 : UInt8))) : Int), (readD (List.dropWhile (fun (b : UInt8) => decide (b = (35 : UInt8) ∨ b = (98 : UInt8))) (cutL s (1 : Int) (↑s.length : Int)))).fst) else []) = s)) (.leaf [.agg [.int .i64 ((0 : Int)), .int .i64 ((0 : Int)), .int .i64 ((0 : Int))], .lit false]) (.leaf [.agg [.int .i64 (Lib.indexByte #[(99 : UInt8), (100 : UInt8), (101 : UInt8), (102 : UInt8), (103 : UInt8), (97 : UInt8), (98 : UInt8)].toList (↑(s.getD (Int.toNat (0 : Int)) (0 : UInt8)).toNat : Int).toNat.toUInt8), .int .i64 ((↑(Lib.countByte (cutL (cutL s (1 : Int) (↑s.length : Int)) (0 : Int) ((↑(cutL s (1 : Int) (↑s.length : Int)).length : Int) - (↑(List.dropWhile (fun (b : UInt8) => decide (b = (35 : UInt8) ∨ b = (98 : UInt8))) (cutL s (1 : Int) (↑s.length : Int))).length : Int))) (#[(35 : UInt8)].toList.headD (0 : UInt8))) : Int) - (↑(Lib.countByte (cutL (cutL s (1 : Int) (↑s.length : Int)) (0 : Int) ((↑(cutL s (1 : Int) (↑s.length : Int)).length : Int) - (↑(List.dropWhile (fun (b : UInt8) => decide (b = (35 : UInt8) ∨ b = (98 : UInt8))) (cutL s (1 : Int) (↑s.length : Int))).length : Int))) (#[(98 : UInt8)].toList.headD (0 : UInt8))) : Int)), .int .i64 ((readD (List.dropWhile (fun (b : UInt8) => decide (b = (35 : UInt8) ∨ b = (98 : UInt8))) (cutL s (1 : Int) (↑s.length : Int)))).fst)], .lit true]))))))))))))) := by kernel_rfl
  refine (congrArg (Tree.ok _) htree).mpr ?_
  clear htree
  simp only [Tree.ok, tyd_inj, packAV, AV.same, AV.same.sameL, encV, encS, enc, inK, Nd.ok, List.headD_cons, List.cons_append, List.nil_append, List.append_nil, true_and, and_true, Bool.true_and, Bool.and_true]
  cases s with
  | nil => simp [rdPitI]
  | cons b t =>
    have e5 : decide (b :: t = []) = false := by simp
    have e2 : (b :: t).getD (Int.toNat 0) 0 = b := rfl
    have em : (fun b : UInt8 => decide (b = 35 ∨ b = 98)) = mark8 := rfl
    have es : [(99 : UInt8), (100 : UInt8), (101 : UInt8), (102 : UInt8), (103 : UInt8), (97 : UInt8), (98 : UInt8)] = stepL := rfl
    have e35 : #[(35 : UInt8)].toList.headD 0 = 35 := rfl
    have e98 : #[(98 : UInt8)].toList.headD 0 = 98 := rfl
    simp only [e5, cut_tail, e2, em, es, okB, e35, e98, Bool.false_eq_true, false_implies, true_implies]
    have hl : (t.dropWhile mark8).length ≤ t.length := (List.dropWhile_suffix mark8).length_le
    have ec : cutL t 0 ((t.length : Int) - ((t.dropWhile mark8).length : Int)) = t.take (t.length - (t.dropWhile mark8).length) := by
      unfold cutL
      rw [show ((t.length : Int) - ((t.dropWhile mark8).length : Int)).toNat = t.length - (t.dropWhile mark8).length by omega]
      rfl
    have hq := readD_bd (t.dropWhile mark8)
    have h35 : Go.Lib.countByte (t.take (t.length - (t.dropWhile mark8).length)) 35 ≤ t.length := Nat.le_trans List.count_le_length (by rw [List.length_take]; omega)
    have h98 : Go.Lib.countByte (t.take (t.length - (t.dropWhile mark8).length)) 98 ≤ t.length := Nat.le_trans List.count_le_length (by rw [List.length_take]; omega)
    have ea : altOf t = (Go.Lib.countByte (t.take (t.length - (t.dropWhile mark8).length)) 35 : Int) - (Go.Lib.countByte (t.take (t.length - (t.dropWhile mark8).length)) 98 : Int) := rfl
    rw [List.length_cons] at hp
    simp only [ec, ← ea, rdPitI, pitOf, List.length_cons]
    have hal : -3000000 ≤ altOf t ∧ altOf t ≤ 3000000 := by omega
    clear ec ea h35 h98
    generalize altOf t = al at *
    generalize Go.Lib.indexByte stepL b = st at *
    generalize t.dropWhile mark8 = d at *
    generalize readD d = q at *
    obtain ⟨c, w⟩ := q
    simp only at hq ⊢
    cases w
    · simp only [Bool.false_eq_true, false_and, if_false]
      repeat' first | apply And.intro | intro _
      all_goals first | omega | trivial | rfl | contradiction | (simp [Tree.ok, tyd_inj, packAV, AV.same, AV.same.sameL, encV, encS, enc, inK, Nd.ok, List.headD_cons, List.cons_append, List.nil_append, List.append_nil, true_and, and_true, Bool.true_and, Bool.and_true]; done) | (simp_all [Tree.ok, tyd_inj, packAV, AV.same, AV.same.sameL, encV, encS, enc, inK, Nd.ok, List.headD_cons, List.cons_append, List.nil_append, List.append_nil, true_and, and_true, Bool.true_and, Bool.and_true]; done) | (trace_state; fail)
    · cases hk : okP st al c
      · simp only [Bool.false_eq_true, false_and, and_false, if_false, decide_true, decide_false, Bool.not_true, Bool.not_false, Bool.true_eq_false, false_implies, true_implies, and_true, true_and, not_true_eq_false, not_false_eq_true]
        repeat' first | apply And.intro | intro _
        all_goals first | omega | trivial | rfl | contradiction | (simp [Tree.ok, tyd_inj, packAV, AV.same, AV.same.sameL, encV, encS, enc, inK, Nd.ok, List.headD_cons, List.cons_append, List.nil_append, List.append_nil, true_and, and_true, Bool.true_and, Bool.and_true]; done) | (simp_all [Tree.ok, tyd_inj, packAV, AV.same, AV.same.sameL, encV, encS, enc, inK, Nd.ok, List.headD_cons, List.cons_append, List.nil_append, List.append_nil, true_and, and_true, Bool.true_and, Bool.and_true]; done) | (trace_state; fail)
      · by_cases he : pitT (st, al, c) = b :: t
        · simp only [he, and_self, if_true, decide_true, decide_false, Bool.not_true, Bool.not_false, Bool.false_eq_true, Bool.true_eq_false, false_implies, true_implies, and_true, true_and, not_true_eq_false, not_false_eq_true]
          repeat' first | apply And.intro | intro _
          all_goals first | omega | trivial | rfl | contradiction | (simp [Tree.ok, tyd_inj, packAV, AV.same, AV.same.sameL, encV, encS, enc, inK, Nd.ok, List.headD_cons, List.cons_append, List.nil_append, List.append_nil, true_and, and_true, Bool.true_and, Bool.and_true]; done) | (simp_all [Tree.ok, tyd_inj, packAV, AV.same, AV.same.sameL, encV, encS, enc, inK, Nd.ok, List.headD_cons, List.cons_append, List.nil_append, List.append_nil, true_and, and_true, Bool.true_and, Bool.and_true]; done) | (trace_state; fail)
        · simp only [he, and_false, if_true, if_false, decide_true, decide_false, Bool.not_true, Bool.not_false, Bool.false_eq_true, Bool.true_eq_false, false_implies, true_implies, and_true, true_and, not_true_eq_false, not_false_eq_true]
          repeat' first | apply And.intro | intro _
          all_goals first | omega | trivial | rfl | contradiction | (simp [Tree.ok, tyd_inj, packAV, AV.same, AV.same.sameL, encV, encS, enc, inK, Nd.ok, List.headD_cons, List.cons_append, List.nil_append, List.append_nil, true_and, and_true, Bool.true_and, Bool.and_true]; done) | (simp_all [Tree.ok, tyd_inj, packAV, AV.same, AV.same.sameL, encV, encS, enc, inK, Nd.ok, List.headD_cons, List.cons_append, List.nil_append, List.append_nil, true_and, and_true, Bool.true_and, Bool.and_true]; done) | (trace_state; fail)
def C_Uq_1 : FuncId → Option Ct := addC 37 ct_iReadPitch C_UqB
theorem C_Uq_1_ok : COk Tryd.prog C_Uq_1 := addC_ok C_UqB_ok sat_iReadPitch
theorem u8_eq (a b : UInt8) : (((a.toNat : Nat) : Int) == ((b.toNat : Nat) : Int)) = decide (a = b) := by
  rw [Bool.eq_iff_iff, beq_iff_eq, decide_eq_true_eq]
  exact ⟨fun h => UInt8.toNat_inj.1 (by omega), fun h => by rw [h]⟩
theorem stGo_bd (b : UInt8) : ∀ (n k : Nat) (z : Int), n + k ≤ 7 → -1 ≤ z → z ≤ 6 → -1 ≤ stGo b n k z ∧ stGo b n k z ≤ 6
  | 0, _, z, _, h1, h2 => ⟨h1, h2⟩
  | n + 1, k, z, h, h1, h2 => by
    rw [stGo]
    split
    · exact stGo_bd b n (k + 1) k (by omega) (by omega) (by omega)
    · exact stGo_bd b n (k + 1) z (by omega) h1 h2
theorem mkL_at (s : List UInt8) (i : Nat) (z : Int) (h : i < s.length) : mkL (s.drop i) z = if s.getD i 0 = 35 then mkL (s.drop (i + 1)) (z + 1) else if s.getD i 0 = 98 then mkL (s.drop (i + 1)) (z - 1) else (z, s.drop i) := by
  rw [List.drop_eq_getElem_cons h, getD_lt _ _ _ h, mkL]
def ann_sReadPitch_0 : LAnn := { sameS := [0, 2, 4], modS := [3, 5], sameH := [2], modH := [4], base := 900000, nilE := [], nilB := [], G := fun
  | ⟨[.str s, .ptr 2 0, .ptr 4 0], [.box [.int .i64 p, .int .i64 q, .int .i64 u]], [.bool r, .int .i64 k], [[.int .i64 a, .int .i64 b, .int .i64 c]]⟩ => some (.p ((0 ≤ k ∧ k ≤ 7) ∧ 0 < s.length), .leaf (.exit 0) [.bool r, .unk] [[.int .i64 (stGo (s.getD 0 0) (7 - k).toNat k.toNat a), .int .i64 b, .int .i64 c]])
  | _ => none }
def ann_sReadPitch_1 : LAnn := { sameS := [0, 2, 4], modS := [3, 6], sameH := [2], modH := [4], base := 950000, nilE := [], nilB := [], G := fun
  | ⟨[.str s, .ptr 2 0, .ptr 4 0], [.box [.int .i64 p, .int .i64 q, .int .i64 u]], [.bool r, .int .i64 i], [[.int .i64 a, .int .i64 b, .int .i64 c]]⟩ => some (.p ((1 ≤ i ∧ i ≤ (s.length : Int)) ∧ s.length ≤ 2000000 ∧ (-i ≤ b ∧ b ≤ i)), .leaf (.exit 2) [.bool r, .int .i64 ((s.length : Int) - ((mkL (s.drop i.toNat) b).2.length : Int))] [[.int .i64 a, .int .i64 (mkL (s.drop i.toNat) b).1, .int .i64 c]])
  | _ => none }
def ct_sReadPitch : Ct := ctOf [.v .str] (fun ((s : List UInt8), _) => .p (s.length ≤ 2000000)) (fun ((s : List UInt8), _) => .tup [.agg (enc tPitch (rdPitI s).1), .bool (rdPitI s).2])
set_option maxHeartbeats 1000000 in
theorem loop_sReadPitch_1 : LoopSat Tryd.prog Tryd.f36.ntmps (loopAt Tryd.f36 1) ann_sReadPitch_1 := by
  refine loopSat_of (C := C_Uq_1) (L := (addL (firstId (loopAt Tryd.f36 1)) ann_sReadPitch_1 (addL (firstId (loopAt Tryd.f36 0)) ann_sReadPitch_0 noL))) (wr := false) mixedOk C_Uq_1_ok (loopsIn0 (by kernel_rfl)) (fun d => match d.same, d.vals with | [.str s, _, _], [_, .int _ i] => ((s.length : Int) - i).toNat | _, _ => 0) fun d p t hG hp => ?_
  simp only [ann_sReadPitch_1] at hG
  split at hG
  rotate_left
  · simp at hG
  rename_i s p q u r i a b c
  simp only [Option.some.injEq, Prod.mk.injEq] at hG
  obtain ⟨rfl, rfl⟩ := hG
  have htree : exRound Tryd.prog C_Uq_1 false (addL (firstId (loopAt Tryd.f36 1)) ann_sReadPitch_1 (addL (firstId (loopAt Tryd.f36 0)) ann_sReadPitch_0 noL)) Tryd.f36.ntmps ann_sReadPitch_1 (loopAt Tryd.f36 1) ⟨[.str s, .ptr 2 0, .ptr 4 0], [.box [.int .i64 p, .int .i64 q, .int .i64 u]], [.bool r, .int .i64 i], [[.int .i64 a, .int .i64 b, .int .i64 c]]⟩ = .ite (decide (i < (↑s.length : Int))) (.need ((0 : Int) ≤ i ∧ i < (↑s.length : Int)) (.ite ((↑(s.getD i.toNat (0 : UInt8)).toNat : Int) == (35 : Int)) (.need ((0 : Int) ≤ i ∧ i < (↑s.length : Int)) (.ite ((↑(s.getD i.toNat (0 : UInt8)).toNat : Int) == (35 : Int)) (.need (inK IntKind.i64 (b + (1 : Int))) (.need (inK IntKind.i64 (i + (1 : Int))) (.leaf (.normal, ⟨[.str (s), .ptr 2 0, .ptr 4 0], [.box [.int .i64 (p), .int .i64 (q), .int .i64 (u)]], [.bool (r), .int .i64 (i + (1 : Int))], [[.int .i64 (a), .int .i64 (b + (1 : Int)), .int .i64 (c)]]⟩)))) (.need (inK IntKind.i64 (b - (1 : Int))) (.need (inK IntKind.i64 (i + (1 : Int))) (.leaf (.normal, ⟨[.str (s), .ptr 2 0, .ptr 4 0], [.box [.int .i64 (p), .int .i64 (q), .int .i64 (u)]], [.bool (r), .int .i64 (i + (1 : Int))], [[.int .i64 (a), .int .i64 (b - (1 : Int)), .int .i64 (c)]]⟩)))))) (.need ((0 : Int) ≤ i ∧ i < (↑s.length : Int)) (.ite ((↑(s.getD i.toNat (0 : UInt8)).toNat : Int) == (98 : Int)) (.need ((0 : Int) ≤ i ∧ i < (↑s.length : Int)) (.ite ((↑(s.getD i.toNat (0 : UInt8)).toNat : Int) == (35 : Int)) (.need (inK IntKind.i64 (b + (1 : Int))) (.need (inK IntKind.i64 (i + (1 : Int))) (.leaf (.normal, ⟨[.str (s), .ptr 2 0, .ptr 4 0], [.box [.int .i64 (p), .int .i64 (q), .int .i64 (u)]], [.bool (r), .int .i64 (i + (1 : Int))], [[.int .i64 (a), .int .i64 (b + (1 : Int)), .int .i64 (c)]]⟩)))) (.need (inK IntKind.i64 (b - (1 : Int))) (.need (inK IntKind.i64 (i + (1 : Int))) (.leaf (.normal, ⟨[.str (s), .ptr 2 0, .ptr 4 0], [.box [.int .i64 (p), .int .i64 (q), .int .i64 (u)]], [.bool (r), .int .i64 (i + (1 : Int))], [[.int .i64 (a), .int .i64 (b - (1 : Int)), .int .i64 (c)]]⟩)))))) (.leaf ((.exit 2), ⟨[.str (s), .ptr 2 0, .ptr 4 0], [.box [.int .i64 (p), .int .i64 (q), .int .i64 (u)]], [.bool (r), .int .i64 (i)], [[.int .i64 (a), .int .i64 (b), .int .i64 (c)]]⟩)))))) (.leaf ((.exit 2), ⟨[.str (s), .ptr 2 0, .ptr 4 0], [.box [.int .i64 (p), .int .i64 (q), .int .i64 (u)]], [.bool (r), .int .i64 (i)], [[.int .i64 (a), .int .i64 (b), .int .i64 (c)]]⟩)) := by kernel_rfl
  rw [htree]
  clear htree
  replace hp : (1 ≤ i ∧ i ≤ (s.length : Int)) ∧ s.length ≤ 2000000 ∧ (-i ≤ b ∧ b ≤ i) := hp
  obtain ⟨hi, hs, hb⟩ := hp
  have c35 : ∀ x : UInt8, (((x.toNat : Nat) : Int) == 35) = decide (x = 35) := fun x => u8_eq x 35
  have c98 : ∀ x : UInt8, (((x.toNat : Nat) : Int) == 98) = decide (x = 98) := fun x => u8_eq x 98
  simp only [Tree.ok, tyd_inj, packAV, AV.same, AV.same.sameL, encV, encS, enc, inK, Nd.ok, List.headD_cons, List.cons_append, List.nil_append, List.append_nil, true_and, and_true, Bool.true_and, Bool.and_true, loop_next, weakBs_nil, weakBs_cons, weakB_self, weakB_row, weakB_int, weakL_nil, weakL_unk, weakL_guess, isRow_own, isRow_unk, weakL_int, weakL_bool, weakL_str, weakL_own, weakL_view, weakL_nilS, noRow_int, noRow_bool, own_inj, LTree.val, cond_true, cond_false, Prod.mk.injEq, List.cons.injEq, AV.int.injEq, AV.bool.injEq, AV.str.injEq, AV.agg.injEq, ann_sReadPitch_1, c35, c98, decide_eq_true_eq, decide_eq_false_iff_not]
  refine ⟨fun ha => ?_, fun ha => ?_⟩
  · rw [show (i + 1).toNat = i.toNat + 1 by omega, mkL_at s i.toNat b (by omega)]
    generalize s.getD i.toNat 0 = x at *
    have hln : (s.drop i.toNat).length = s.length - i.toNat := List.length_drop
    by_cases h1 : x = 35
    · subst h1
      simp only [if_true, decide_true, true_implies, Bool.true_or, Bool.true_eq_false, false_implies]
      repeat' first | apply And.intro | intro _
      all_goals first | omega | trivial | rfl | contradiction | (simp [Tree.ok, tyd_inj, packAV, AV.same, AV.same.sameL, encV, encS, enc, inK, Nd.ok, List.headD_cons, List.cons_append, List.nil_append, List.append_nil, true_and, and_true, Bool.true_and, Bool.and_true, loop_next, weakBs_nil, weakBs_cons, weakB_self, weakB_row, weakB_int, weakL_nil, weakL_unk, weakL_guess, isRow_own, isRow_unk, weakL_int, weakL_bool, weakL_str, weakL_own, weakL_view, weakL_nilS, noRow_int, noRow_bool, own_inj, LTree.val, cond_true, cond_false, Prod.mk.injEq, List.cons.injEq, AV.int.injEq, AV.bool.injEq, AV.str.injEq, AV.agg.injEq]; done) | (simp_all [Tree.ok, tyd_inj, packAV, AV.same, AV.same.sameL, encV, encS, enc, inK, Nd.ok, List.headD_cons, List.cons_append, List.nil_append, List.append_nil, true_and, and_true, Bool.true_and, Bool.and_true, loop_next, weakBs_nil, weakBs_cons, weakB_self, weakB_row, weakB_int, weakL_nil, weakL_unk, weakL_guess, isRow_own, isRow_unk, weakL_int, weakL_bool, weakL_str, weakL_own, weakL_view, weakL_nilS, noRow_int, noRow_bool, own_inj, LTree.val, cond_true, cond_false, Prod.mk.injEq, List.cons.injEq, AV.int.injEq, AV.bool.injEq, AV.str.injEq, AV.agg.injEq]; done) | (trace_state; fail)
    · by_cases h2 : x = 98
      · subst h2
        simp only [h1, if_true, if_false, decide_true, decide_false, Bool.or_true, true_implies, Bool.true_eq_false, false_implies]
        repeat' first | apply And.intro | intro _
        all_goals first | omega | trivial | rfl | contradiction | (simp [Tree.ok, tyd_inj, packAV, AV.same, AV.same.sameL, encV, encS, enc, inK, Nd.ok, List.headD_cons, List.cons_append, List.nil_append, List.append_nil, true_and, and_true, Bool.true_and, Bool.and_true, loop_next, weakBs_nil, weakBs_cons, weakB_self, weakB_row, weakB_int, weakL_nil, weakL_unk, weakL_guess, isRow_own, isRow_unk, weakL_int, weakL_bool, weakL_str, weakL_own, weakL_view, weakL_nilS, noRow_int, noRow_bool, own_inj, LTree.val, cond_true, cond_false, Prod.mk.injEq, List.cons.injEq, AV.int.injEq, AV.bool.injEq, AV.str.injEq, AV.agg.injEq]; done) | (simp_all [Tree.ok, tyd_inj, packAV, AV.same, AV.same.sameL, encV, encS, enc, inK, Nd.ok, List.headD_cons, List.cons_append, List.nil_append, List.append_nil, true_and, and_true, Bool.true_and, Bool.and_true, loop_next, weakBs_nil, weakBs_cons, weakB_self, weakB_row, weakB_int, weakL_nil, weakL_unk, weakL_guess, isRow_own, isRow_unk, weakL_int, weakL_bool, weakL_str, weakL_own, weakL_view, weakL_nilS, noRow_int, noRow_bool, own_inj, LTree.val, cond_true, cond_false, Prod.mk.injEq, List.cons.injEq, AV.int.injEq, AV.bool.injEq, AV.str.injEq, AV.agg.injEq]; done) | (trace_state; fail)
      · simp only [h1, h2, if_true, if_false, decide_true, decide_false, Bool.or_self, true_implies, Bool.false_eq_true, false_implies, hln]
        repeat' first | apply And.intro | intro _
        all_goals first | omega | trivial | rfl | contradiction | (simp [Tree.ok, tyd_inj, packAV, AV.same, AV.same.sameL, encV, encS, enc, inK, Nd.ok, List.headD_cons, List.cons_append, List.nil_append, List.append_nil, true_and, and_true, Bool.true_and, Bool.and_true, loop_next, weakBs_nil, weakBs_cons, weakB_self, weakB_row, weakB_int, weakL_nil, weakL_unk, weakL_guess, isRow_own, isRow_unk, weakL_int, weakL_bool, weakL_str, weakL_own, weakL_view, weakL_nilS, noRow_int, noRow_bool, own_inj, LTree.val, cond_true, cond_false, Prod.mk.injEq, List.cons.injEq, AV.int.injEq, AV.bool.injEq, AV.str.injEq, AV.agg.injEq]; done) | (simp_all [Tree.ok, tyd_inj, packAV, AV.same, AV.same.sameL, encV, encS, enc, inK, Nd.ok, List.headD_cons, List.cons_append, List.nil_append, List.append_nil, true_and, and_true, Bool.true_and, Bool.and_true, loop_next, weakBs_nil, weakBs_cons, weakB_self, weakB_row, weakB_int, weakL_nil, weakL_unk, weakL_guess, isRow_own, isRow_unk, weakL_int, weakL_bool, weakL_str, weakL_own, weakL_view, weakL_nilS, noRow_int, noRow_bool, own_inj, LTree.val, cond_true, cond_false, Prod.mk.injEq, List.cons.injEq, AV.int.injEq, AV.bool.injEq, AV.str.injEq, AV.agg.injEq]; done) | (trace_state; fail)
  · rw [List.drop_eq_nil_of_le (by omega)]
    simp [Tree.ok, tyd_inj, packAV, AV.same, AV.same.sameL, encV, encS, enc, inK, Nd.ok, List.headD_cons, List.cons_append, List.nil_append, List.append_nil, true_and, and_true, Bool.true_and, Bool.and_true, loop_next, weakBs_nil, weakBs_cons, weakB_self, weakB_row, weakB_int, weakL_nil, weakL_unk, weakL_guess, isRow_own, isRow_unk, weakL_int, weakL_bool, weakL_str, weakL_own, weakL_view, weakL_nilS, noRow_int, noRow_bool, own_inj, LTree.val, cond_true, cond_false, Prod.mk.injEq, List.cons.injEq, AV.int.injEq, AV.bool.injEq, AV.str.injEq, AV.agg.injEq, mkL]
    try omega
set_option maxHeartbeats 1000000 in
theorem loop_sReadPitch_0 : LoopSat Tryd.prog Tryd.f36.ntmps (loopAt Tryd.f36 0) ann_sReadPitch_0 := by
  refine loopSat_of (C := C_Uq_1) (L := (addL (firstId (loopAt Tryd.f36 1)) ann_sReadPitch_1 (addL (firstId (loopAt Tryd.f36 0)) ann_sReadPitch_0 noL))) (wr := false) mixedOk C_Uq_1_ok (loopsIn0 (by kernel_rfl)) (fun d => match d.vals with | [_, .int _ n] => (7 - n).toNat | _ => 0) fun d p t hG hp => ?_
  simp only [ann_sReadPitch_0] at hG
  split at hG
  rotate_left
  · simp at hG
  rename_i s p q u r k a b c
  simp only [Option.some.injEq, Prod.mk.injEq] at hG
  obtain ⟨rfl, rfl⟩ := hG
  have htree : exRound Tryd.prog C_Uq_1 false (addL (firstId (loopAt Tryd.f36 1)) ann_sReadPitch_1 (addL (firstId (loopAt Tryd.f36 0)) ann_sReadPitch_0 noL)) Tryd.f36.ntmps ann_sReadPitch_0 (loopAt Tryd.f36 0) ⟨[.str s, .ptr 2 0, .ptr 4 0], [.box [.int .i64 p, .int .i64 q, .int .i64 u]], [.bool r, .int .i64 k], [[.int .i64 a, .int .i64 b, .int .i64 c]]⟩ = .ite (decide (k < (7 : Int))) (.need ((0 : Int) ≤ k ∧ k < (↑#[(99 : UInt8), (100 : UInt8), (101 : UInt8), (102 : UInt8), (103 : UInt8), (97 : UInt8), (98 : UInt8)].toList.length : Int)) (.need ((0 : Int) ≤ (0 : Int) ∧ (0 : Int) < (↑s.length : Int)) (.ite ((↑(#[(99 : UInt8), (100 : UInt8), (101 : UInt8), (102 : UInt8), (103 : UInt8), (97 : UInt8), (98 : UInt8)].toList.getD k.toNat (0 : UInt8)).toNat : Int) == (↑(s.getD (Int.toNat (0 : Int)) (0 : UInt8)).toNat : Int)) (.need (inK IntKind.i64 (k + (1 : Int))) (.leaf (.normal, ⟨[.str (s), .ptr 2 0, .ptr 4 0], [.box [.int .i64 (p), .int .i64 (q), .int .i64 (u)]], [.bool (r), .int .i64 (k + (1 : Int))], [[.int .i64 (k), .int .i64 (b), .int .i64 (c)]]⟩))) (.need (inK IntKind.i64 (k + (1 : Int))) (.leaf (.normal, ⟨[.str (s), .ptr 2 0, .ptr 4 0], [.box [.int .i64 (p), .int .i64 (q), .int .i64 (u)]], [.bool (r), .int .i64 (k + (1 : Int))], [[.int .i64 (a), .int .i64 (b), .int .i64 (c)]]⟩)))))) (.leaf ((.exit 0), ⟨[.str (s), .ptr 2 0, .ptr 4 0], [.box [.int .i64 (p), .int .i64 (q), .int .i64 (u)]], [.bool (r), .int .i64 (k)], [[.int .i64 (a), .int .i64 (b), .int .i64 (c)]]⟩)) := by kernel_rfl
  rw [htree]
  clear htree
  replace hp : (0 ≤ k ∧ k ≤ 7) ∧ 0 < s.length := hp
  obtain ⟨hk, hs⟩ := hp
  have es : [(99 : UInt8), (100 : UInt8), (101 : UInt8), (102 : UInt8), (103 : UInt8), (97 : UInt8), (98 : UInt8)] = stepL := rfl
  have e0 : Int.toNat 0 = 0 := rfl
  have l0 : stepL.length = 7 := rfl
  simp only [Tree.ok, tyd_inj, packAV, AV.same, AV.same.sameL, encV, encS, enc, inK, Nd.ok, List.headD_cons, List.cons_append, List.nil_append, List.append_nil, true_and, and_true, Bool.true_and, Bool.and_true, loop_next, weakBs_nil, weakBs_cons, weakB_self, weakB_row, weakB_int, weakL_nil, weakL_unk, weakL_guess, isRow_own, isRow_unk, weakL_int, weakL_bool, weakL_str, weakL_own, weakL_view, weakL_nilS, noRow_int, noRow_bool, own_inj, LTree.val, cond_true, cond_false, Prod.mk.injEq, List.cons.injEq, AV.int.injEq, AV.bool.injEq, AV.str.injEq, AV.agg.injEq, ann_sReadPitch_0, decide_eq_true_eq, decide_eq_false_iff_not, es, u8_eq, e0, l0]
  refine ⟨fun ha => ?_, fun ha => ?_⟩
  · obtain ⟨m, hm⟩ : ∃ m, (7 - k).toNat = m + 1 := ⟨(7 - k).toNat - 1, by omega⟩
    rw [hm, show (7 - (k + 1)).toNat = m by omega, stGo, show (k + 1).toNat = k.toNat + 1 by omega, show ((k.toNat : Nat) : Int) = k by omega]
    by_cases h1 : stepL.getD k.toNat 0 = s.getD 0 0
    · simp only [h1, if_true, decide_true, true_implies, Bool.true_eq_false, false_implies]
      repeat' first | apply And.intro | intro _
      all_goals first | omega | trivial | rfl | contradiction | (simp [Tree.ok, tyd_inj, packAV, AV.same, AV.same.sameL, encV, encS, enc, inK, Nd.ok, List.headD_cons, List.cons_append, List.nil_append, List.append_nil, true_and, and_true, Bool.true_and, Bool.and_true, loop_next, weakBs_nil, weakBs_cons, weakB_self, weakB_row, weakB_int, weakL_nil, weakL_unk, weakL_guess, isRow_own, isRow_unk, weakL_int, weakL_bool, weakL_str, weakL_own, weakL_view, weakL_nilS, noRow_int, noRow_bool, own_inj, LTree.val, cond_true, cond_false, Prod.mk.injEq, List.cons.injEq, AV.int.injEq, AV.bool.injEq, AV.str.injEq, AV.agg.injEq]; done) | (simp_all [Tree.ok, tyd_inj, packAV, AV.same, AV.same.sameL, encV, encS, enc, inK, Nd.ok, List.headD_cons, List.cons_append, List.nil_append, List.append_nil, true_and, and_true, Bool.true_and, Bool.and_true, loop_next, weakBs_nil, weakBs_cons, weakB_self, weakB_row, weakB_int, weakL_nil, weakL_unk, weakL_guess, isRow_own, isRow_unk, weakL_int, weakL_bool, weakL_str, weakL_own, weakL_view, weakL_nilS, noRow_int, noRow_bool, own_inj, LTree.val, cond_true, cond_false, Prod.mk.injEq, List.cons.injEq, AV.int.injEq, AV.bool.injEq, AV.str.injEq, AV.agg.injEq]; done) | (trace_state; fail)
    · simp only [h1, if_false, decide_false, true_implies, Bool.false_eq_true, false_implies]
      repeat' first | apply And.intro | intro _
      all_goals first | omega | trivial | rfl | contradiction | (simp [Tree.ok, tyd_inj, packAV, AV.same, AV.same.sameL, encV, encS, enc, inK, Nd.ok, List.headD_cons, List.cons_append, List.nil_append, List.append_nil, true_and, and_true, Bool.true_and, Bool.and_true, loop_next, weakBs_nil, weakBs_cons, weakB_self, weakB_row, weakB_int, weakL_nil, weakL_unk, weakL_guess, isRow_own, isRow_unk, weakL_int, weakL_bool, weakL_str, weakL_own, weakL_view, weakL_nilS, noRow_int, noRow_bool, own_inj, LTree.val, cond_true, cond_false, Prod.mk.injEq, List.cons.injEq, AV.int.injEq, AV.bool.injEq, AV.str.injEq, AV.agg.injEq]; done) | (simp_all [Tree.ok, tyd_inj, packAV, AV.same, AV.same.sameL, encV, encS, enc, inK, Nd.ok, List.headD_cons, List.cons_append, List.nil_append, List.append_nil, true_and, and_true, Bool.true_and, Bool.and_true, loop_next, weakBs_nil, weakBs_cons, weakB_self, weakB_row, weakB_int, weakL_nil, weakL_unk, weakL_guess, isRow_own, isRow_unk, weakL_int, weakL_bool, weakL_str, weakL_own, weakL_view, weakL_nilS, noRow_int, noRow_bool, own_inj, LTree.val, cond_true, cond_false, Prod.mk.injEq, List.cons.injEq, AV.int.injEq, AV.bool.injEq, AV.str.injEq, AV.agg.injEq]; done) | (trace_state; fail)
  · rw [show (7 - k).toNat = 0 by omega]
    simp [Tree.ok, tyd_inj, packAV, AV.same, AV.same.sameL, encV, encS, enc, inK, Nd.ok, List.headD_cons, List.cons_append, List.nil_append, List.append_nil, true_and, and_true, Bool.true_and, Bool.and_true, loop_next, weakBs_nil, weakBs_cons, weakB_self, weakB_row, weakB_int, weakL_nil, weakL_unk, weakL_guess, isRow_own, isRow_unk, weakL_int, weakL_bool, weakL_str, weakL_own, weakL_view, weakL_nilS, noRow_int, noRow_bool, own_inj, LTree.val, cond_true, cond_false, Prod.mk.injEq, List.cons.injEq, AV.int.injEq, AV.bool.injEq, AV.str.injEq, AV.agg.injEq, stGo]
theorem loops_sReadPitch : ∀ c, Tryd.f36.body = some c → LoopsOk Tryd.prog (addL (firstId (loopAt Tryd.f36 1)) ann_sReadPitch_1 (addL (firstId (loopAt Tryd.f36 0)) ann_sReadPitch_0 noL)) Tryd.f36.ntmps c := loopsN fun i hi ann h => by
  have hn : loopN Tryd.f36 = 2 := by kernel_rfl
  rw [hn] at hi
  exact match i, hi, h with
    | 0, _, h => (Option.some.inj ((show (addL (firstId (loopAt Tryd.f36 1)) ann_sReadPitch_1 (addL (firstId (loopAt Tryd.f36 0)) ann_sReadPitch_0 noL)) (firstId (loopAt Tryd.f36 0)) = some ann_sReadPitch_0 from by kernel_rfl).symm.trans h)) ▸ loop_sReadPitch_0
    | 1, _, h => (Option.some.inj ((show (addL (firstId (loopAt Tryd.f36 1)) ann_sReadPitch_1 (addL (firstId (loopAt Tryd.f36 0)) ann_sReadPitch_0 noL)) (firstId (loopAt Tryd.f36 1)) = some ann_sReadPitch_1 from by kernel_rfl).symm.trans h)) ▸ loop_sReadPitch_1
set_option maxHeartbeats 1000000 in
theorem sat_sReadPitch : Sat Tryd.prog 36 ct_sReadPitch := by
  refine sat_typed (C := C_Uq_1) (L := (addL (firstId (loopAt Tryd.f36 1)) ann_sReadPitch_1 (addL (firstId (loopAt Tryd.f36 0)) ann_sReadPitch_0 noL))) (wr := false) mixedOk Tryd.func36 C_Uq_1_ok (loops_sReadPitch) (fun _ => by first | rfl | (simp [ownsOf, ownsOf.ownsL, enc, encV, encS])) fun x hp => ?_
  obtain ⟨(s : List UInt8), _⟩ := x
  replace hp : s.length ≤ 2000000 := hp
  have htree : exFunc Tryd.prog C_Uq_1 false (addL (firstId (loopAt Tryd.f36 1)) ann_sReadPitch_1 (addL (firstId (loopAt Tryd.f36 0)) ann_sReadPitch_0 noL)) Tryd.f36 (encA [.v .str] (s, ())) = .ite (decide (s = ([] : List UInt8))) (.leaf [.agg [.int .i64 ((0 : Int)), .int .i64 ((0 : Int)), .int .i64 ((0 : Int))], .lit false]) (.need (((0 : Int) ≤ (0 : Int) ∧ (0 : Int) ≤ (7 : Int)) ∧ (0 : Nat) < s.length) (.need (((1 : Int) ≤ (1 : Int) ∧ (1 : Int) ≤ (↑s.length : Int)) ∧ s.length ≤ (2000000 : Nat) ∧ (-1 : Int) ≤ (0 : Int) ∧ (0 : Int) ≤ (1 : Int)) (.need ((0 : Int) ≤ (↑s.length : Int) - (↑(List.length (mkL (List.drop (Int.toNat (1 : Int)) s) (0 : Int)).snd) : Int) ∧ (↑s.length : Int) - (↑(List.length (mkL (List.drop (Int.toNat (1 : Int)) s) (0 : Int)).snd) : Int) ≤ (↑s.length : Int)) (.ite (!(readD (cutL s ((↑s.length : Int) - (↑(List.length (mkL (List.drop (Int.toNat (1 : Int)) s) (0 : Int)).snd) : Int)) (↑s.length : Int))).snd) (.leaf [.agg [.int .i64 ((0 : Int)), .int .i64 ((0 : Int)), .int .i64 ((0 : Int))], .lit false]) (.ite (!decide ((if okP (stGo (s.getD (0 : Nat) (0 : UInt8)) ((7 : Int) - (0 : Int)).toNat (Int.toNat (0 : Int)) (-1 : Int)) (mkL (List.drop (Int.toNat (1 : Int)) s) (0 : Int)).fst (readD (cutL s ((↑s.length : Int) - (↑(List.length (mkL (List.drop (Int.toNat (1 : Int)) s) (0 : Int)).snd) : Int)) (↑s.length : Int))).fst = true then pitT (stGo (s.getD (0 : Nat) (0 : UInt8)) ((7 : Int) - (0 : Int)).toNat (Int.toNat (0 : Int)) (-1 : Int), (mkL (List.drop (Int.toNat (1 : Int)) s) (0 : Int)).fst, (readD (cutL s ((↑s.length : Int) - (↑(List.length (mkL (List.drop (Int.toNat (1 : Int)) s) (0 : Int)).snd) : Int)) (↑s.length : Int))).fst) else []) = s)) (.leaf [.agg [.int .i64 ((0 : Int)), .int .i64 ((0 : Int)), .int .i64 ((0 : Int))], .lit false]) (.leaf [.agg [.int .i64 (stGo (s.getD (0 : Nat) (0 : UInt8)) ((7 : Int) - (0 : Int)).toNat (Int.toNat (0 : Int)) (-1 : Int)), .int .i64 ((mkL (List.drop (Int.toNat (1 : Int)) s) (0 : Int)).fst), .int .i64 ((readD (cutL s ((↑s.length : Int) - (↑(List.length (mkL (List.drop (Int.toNat (1 : Int)) s) (0 : Int)).snd) : Int)) (↑s.length : Int))).fst)], .lit true])))))) := by kernel_rfl
  refine (congrArg (Tree.ok _) htree).mpr ?_
  clear htree
  have hE := rdPit_eq s
  simp only [Tree.ok, tyd_inj, packAV, AV.same, AV.same.sameL, encV, encS, enc, inK, Nd.ok, List.headD_cons, List.cons_append, List.nil_append, List.append_nil, true_and, and_true, Bool.true_and, Bool.and_true]
  rw [← hE]
  clear hE
  cases s with
  | nil => simp [rdPitS, Tree.ok, tyd_inj, packAV, AV.same, AV.same.sameL, encV, encS, enc, inK, Nd.ok, List.headD_cons, List.cons_append, List.nil_append, List.append_nil, true_and, and_true, Bool.true_and, Bool.and_true]
  | cons b t =>
    have e5 : decide (b :: t = []) = false := by simp
    have e2 : (b :: t).getD 0 0 = b := rfl
    have e7 : ((7 : Int) - 0).toNat = 7 := by decide
    have e0 : Int.toNat 0 = 0 := rfl
    have e1 : Int.toNat 1 = 1 := rfl
    have ed : (b :: t).drop 1 = t := rfl
    simp only [e5, e2, e7, e0, e1, ed, Bool.false_eq_true, false_implies, true_implies]
    have hm := mkL_len t 0
    have hmb := mkL_bd t 0
    have hg := stGo_bd b 7 0 (-1) (by omega) (by omega) (by omega)
    rw [List.length_cons] at hp
    have ec : cutL (b :: t) (((b :: t).length : Int) - ((mkL t 0).2.length : Int)) ((b :: t).length : Int) = (mkL t 0).2 := by
      unfold cutL
      have hm2 := hm.2
      rw [List.length_cons, show ((t.length + 1 : Nat) : Int).toNat = (b :: t).length by simp, List.take_length, show (((t.length + 1 : Nat) : Int) - ((mkL t 0).2.length : Int)).toNat = (t.length - (mkL t 0).2.length) + 1 by omega, List.drop_succ_cons, ← hm2]
    simp only [ec, rdPitS, pitOf]
    simp only [List.length_cons]
    clear ec
    have hm1 := hm.1
    clear hm
    generalize mkL t 0 = mm at *
    obtain ⟨al, d⟩ := mm
    simp only at hm1 hmb ⊢
    have hq := readD_bd d
    generalize readD d = q at *
    obtain ⟨c, w⟩ := q
    generalize stGo b 7 0 (-1) = st at *
    simp only at hq ⊢
    cases w
    · simp only [Bool.false_eq_true, false_and, and_false, if_false, decide_true, decide_false, Bool.not_true, Bool.not_false, Bool.true_eq_false, false_implies, true_implies, and_true, true_and, not_true_eq_false, not_false_eq_true]
      repeat' first | apply And.intro | intro _
      all_goals first | omega | trivial | rfl | contradiction | (simp [Tree.ok, tyd_inj, packAV, AV.same, AV.same.sameL, encV, encS, enc, inK, Nd.ok, List.headD_cons, List.cons_append, List.nil_append, List.append_nil, true_and, and_true, Bool.true_and, Bool.and_true]; done) | (simp_all [Tree.ok, tyd_inj, packAV, AV.same, AV.same.sameL, encV, encS, enc, inK, Nd.ok, List.headD_cons, List.cons_append, List.nil_append, List.append_nil, true_and, and_true, Bool.true_and, Bool.and_true]; done) | (trace_state; fail)
    · cases hk : okP st al c
      · simp only [Bool.false_eq_true, false_and, and_false, if_false, decide_true, decide_false, Bool.not_true, Bool.not_false, Bool.true_eq_false, false_implies, true_implies, and_true, true_and, not_true_eq_false, not_false_eq_true]
        have hne : ([] : List UInt8) ≠ b :: t := by simp
        simp only [hne, decide_false, Bool.not_false, true_implies, Bool.true_eq_false, false_implies]
        repeat' first | apply And.intro | intro _
        all_goals first | omega | trivial | rfl | contradiction | (simp [Tree.ok, tyd_inj, packAV, AV.same, AV.same.sameL, encV, encS, enc, inK, Nd.ok, List.headD_cons, List.cons_append, List.nil_append, List.append_nil, true_and, and_true, Bool.true_and, Bool.and_true]; done) | (simp_all [Tree.ok, tyd_inj, packAV, AV.same, AV.same.sameL, encV, encS, enc, inK, Nd.ok, List.headD_cons, List.cons_append, List.nil_append, List.append_nil, true_and, and_true, Bool.true_and, Bool.and_true]; done) | (trace_state; fail)
      · by_cases he : pitT (st, al, c) = b :: t
        · simp only [he, and_self, if_true, decide_true, decide_false, Bool.not_true, Bool.not_false, Bool.false_eq_true, Bool.true_eq_false, false_implies, true_implies, and_true, true_and, not_true_eq_false, not_false_eq_true]
          repeat' first | apply And.intro | intro _
          all_goals first | omega | trivial | rfl | contradiction | (simp [Tree.ok, tyd_inj, packAV, AV.same, AV.same.sameL, encV, encS, enc, inK, Nd.ok, List.headD_cons, List.cons_append, List.nil_append, List.append_nil, true_and, and_true, Bool.true_and, Bool.and_true]; done) | (simp_all [Tree.ok, tyd_inj, packAV, AV.same, AV.same.sameL, encV, encS, enc, inK, Nd.ok, List.headD_cons, List.cons_append, List.nil_append, List.append_nil, true_and, and_true, Bool.true_and, Bool.and_true]; done) | (trace_state; fail)
        · simp only [he, and_false, if_true, if_false, decide_true, decide_false, Bool.not_true, Bool.not_false, Bool.false_eq_true, Bool.true_eq_false, false_implies, true_implies, and_true, true_and, not_true_eq_false, not_false_eq_true]
          repeat' first | apply And.intro | intro _
          all_goals first | omega | trivial | rfl | contradiction | (simp [Tree.ok, tyd_inj, packAV, AV.same, AV.same.sameL, encV, encS, enc, inK, Nd.ok, List.headD_cons, List.cons_append, List.nil_append, List.append_nil, true_and, and_true, Bool.true_and, Bool.and_true]; done) | (simp_all [Tree.ok, tyd_inj, packAV, AV.same, AV.same.sameL, encV, encS, enc, inK, Nd.ok, List.headD_cons, List.cons_append, List.nil_append, List.append_nil, true_and, and_true, Bool.true_and, Bool.and_true]; done) | (trace_state; fail)
def C_Uq_2 : FuncId → Option Ct := addC 36 ct_sReadPitch C_Uq_1
theorem C_Uq_2_ok : COk Tryd.prog C_Uq_2 := addC_ok C_Uq_1_ok sat_sReadPitch
def ct_lawReadPitch : Ct := ctOf [.v .str] (fun _ => .tt) (fun ((s : List UInt8), _) => .bool true)
set_option maxHeartbeats 1000000 in
theorem sat_lawReadPitch : Sat Tryd.prog 9 ct_lawReadPitch := by
  refine sat_typed (C := C_Uq_2) (L := noL) (wr := false) mixedOk Tryd.func9 C_Uq_2_ok (loops0 (by kernel_rfl)) (fun _ => by first | rfl | (simp [ownsOf, ownsOf.ownsL, enc, encV, encS])) fun x hp => ?_
  obtain ⟨(s : List UInt8), _⟩ := x
  clear hp
  have htree : exFunc Tryd.prog C_Uq_2 false noL Tryd.f9 (encA [.v .str] (s, ())) = .ite (decide ((1048576 : Int) < (↑s.length : Int))) (.leaf [.lit true]) (.need (s.length ≤ (2000000 : Nat)) (.need (s.length ≤ (2000000 : Nat)) (.ite (!decide ((rdPitI s).fst.fst = (rdPitI s).fst.fst ∧ (rdPitI s).fst.snd.fst = (rdPitI s).fst.snd.fst ∧ (rdPitI s).fst.snd.snd = (rdPitI s).fst.snd.snd)) (.leaf [.lit false]) (.ite (!(rdPitI s).snd == (rdPitI s).snd) (.leaf [.lit false]) (.leaf [.lit true]))))) := by kernel_rfl
  refine (congrArg (Tree.ok _) htree).mpr ?_
  clear htree
  simp only [Tree.ok, tyd_inj, packAV, AV.same, AV.same.sameL, encV, encS, enc, inK, Nd.ok, List.headD_cons, List.cons_append, List.nil_append, List.append_nil, true_and, and_true, Bool.true_and, Bool.and_true]
  repeat' first | apply And.intro | intro _
  all_goals first | omega | trivial | rfl | contradiction | assumption | (simp_all; done) | grind
def C_Uq_3 : FuncId → Option Ct := addC 9 ct_lawReadPitch C_Uq_2
theorem C_Uq_3_ok : COk Tryd.prog C_Uq_3 := addC_ok C_Uq_2_ok sat_lawReadPitch

def C_Uq : FuncId → Option Ct := C_Uq_3
theorem C_Uq_ok : COk Tryd.prog C_Uq := C_Uq_3_ok
end Go.Proofs.YtkeckmdmmbeaiaaDoor
