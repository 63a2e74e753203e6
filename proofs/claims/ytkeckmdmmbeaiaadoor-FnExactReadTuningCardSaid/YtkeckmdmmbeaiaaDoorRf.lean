/- Contracts: fractions read from their texts, by the program and the reference. Conditions: as each says. -/
import Derived.Test.YtkeckmdmmbeaiaaDoorXbT
import Derived.Test.YtkeckmdmmbeaiaaDoorXh
set_option linter.unusedSimpArgs false
set_option linter.unusedVariables false
namespace Go.Proofs.YtkeckmdmmbeaiaaDoor
open Go.RowKit Sx
set_option maxRecDepth 100000
set_option maxHeartbeats 1000000
def C_RfB : FuncId → Option Ct := addC 92 ct_ReadDecimal (addC 145 ct_Cut C_Uc)
theorem C_RfB_ok : COk Tryd.prog C_RfB := addC_ok (addC_ok C_Uc_ok sat_Cut) sat_ReadDecimal
theorem p18 {k : Nat} (h : k ≤ 18) : (10 : Int) ^ k ≤ 1000000000000000000 := by
  have h1 : (10 : Nat) ^ k ≤ 10 ^ 18 := Nat.pow_le_pow_right (by decide) h
  have h2 : (10 : Int) ^ k ≤ 10 ^ 18 := by exact_mod_cast h1
  have h3 : (10 : Int) ^ 18 = 1000000000000000000 := by decide
  omega
theorem foldD_at (t : List UInt8) (i : Nat) (n : Int) (h : i < t.length) : foldD (t.drop i) n = if 48 ≤ ((t.getD i 0).toNat : Int) ∧ ((t.getD i 0).toNat : Int) ≤ 57 then foldD (t.drop (i + 1)) (10 * n + (((t.getD i 0).toNat : Int) - 48)) else none := by
  rw [List.drop_eq_getElem_cons h, getD_lt _ _ _ h, foldD]
def ann_l02Int_0 : LAnn := { sameS := [0, 4], modS := [2, 3, 5, 6], sameH := [], modH := [], base := 900000, nilE := [], nilB := [], G := fun
  | ⟨[.str s, .str t], [], [.int .i64 a, .bool r, .int .i64 n, .int .i64 i], []⟩ => some (.p ((0 ≤ i ∧ i ≤ (t.length : Int)) ∧ t.length ≤ 18 ∧ 0 ≤ n ∧ n < 10 ^ i.toNat), .ite (foldD (t.drop i.toNat) n).isSome (.leaf (.exit 0) [.int .i64 a, .bool r, .int .i64 ((foldD (t.drop i.toNat) n).getD 0), .unk] []) (.leaf .ret [.int .i64 0, .bool false, .unk, .unk] []))
  | _ => none }
def ct_l02Int : Ct := ctOf [.v .str] (fun _ => .tt) (fun ((s : List UInt8), _) => .tup [.int .i64 (intF s).1, .bool (intF s).2])
set_option maxHeartbeats 1000000 in
theorem loop_l02Int_0 : LoopSat Tryd.prog Tryd.f143.ntmps (loopAt Tryd.f143 0) ann_l02Int_0 := by
  refine loopSat_of (C := C_RfB) (L := (addL (firstId (loopAt Tryd.f143 0)) ann_l02Int_0 noL)) (wr := false) mixedOk C_RfB_ok (loopsIn0 (by kernel_rfl)) (fun d => match d.same, d.vals with | [_, .str t], [_, _, _, .int _ i] => ((t.length : Int) - i).toNat | _, _ => 0) fun d p t hG hp => ?_
  simp only [ann_l02Int_0] at hG
  split at hG
  rotate_left
  · simp at hG
  rename_i s t a r n i
  simp only [Option.some.injEq, Prod.mk.injEq] at hG
  obtain ⟨rfl, rfl⟩ := hG
  have htree : exRound Tryd.prog C_RfB false (addL (firstId (loopAt Tryd.f143 0)) ann_l02Int_0 noL) Tryd.f143.ntmps ann_l02Int_0 (loopAt Tryd.f143 0) ⟨[.str s, .str t], [], [.int .i64 a, .bool r, .int .i64 n, .int .i64 i], []⟩ = .ite (decide (i < (↑t.length : Int))) (.need ((0 : Int) ≤ i ∧ i < (↑t.length : Int)) (.ite (decide ((↑(t.getD i.toNat (0 : UInt8)).toNat : Int) < (48 : Int))) (.leaf (.ret, ⟨[.str (s), .str (t)], [], [.int .i64 ((0 : Int)), .bool (false), .int .i64 (n), .int .i64 (i)], []⟩)) (.need ((0 : Int) ≤ i ∧ i < (↑t.length : Int)) (.ite (decide ((57 : Int) < (↑(t.getD i.toNat (0 : UInt8)).toNat : Int))) (.leaf (.ret, ⟨[.str (s), .str (t)], [], [.int .i64 ((0 : Int)), .bool (false), .int .i64 (n), .int .i64 (i)], []⟩)) (.need (inK IntKind.i64 ((10 : Int) * n)) (.need ((0 : Int) ≤ i ∧ i < (↑t.length : Int)) (.need (inK IntKind.u8 ((↑(t.getD i.toNat (0 : UInt8)).toNat : Int) - (48 : Int))) (.need (inK IntKind.i64 ((↑(t.getD i.toNat (0 : UInt8)).toNat : Int) - (48 : Int))) (.need (inK IntKind.i64 ((10 : Int) * n + ((↑(t.getD i.toNat (0 : UInt8)).toNat : Int) - (48 : Int)))) (.need (inK IntKind.i64 (i + (1 : Int))) (.leaf (.normal, ⟨[.str (s), .str (t)], [], [.int .i64 (a), .bool (r), .int .i64 ((10 : Int) * n + ((↑(t.getD i.toNat (0 : UInt8)).toNat : Int) - (48 : Int))), .int .i64 (i + (1 : Int))], []⟩)))))))))))) (.leaf ((.exit 0), ⟨[.str (s), .str (t)], [], [.int .i64 (a), .bool (r), .int .i64 (n), .int .i64 (i)], []⟩)) := by kernel_rfl
  rw [htree]
  clear htree
  replace hp : (0 ≤ i ∧ i ≤ (t.length : Int)) ∧ t.length ≤ 18 ∧ 0 ≤ n ∧ n < 10 ^ i.toNat := hp
  obtain ⟨hi, ht, hn, hn2⟩ := hp
  have hp18 := p18 (k := i.toNat) (by omega)
  simp only [Tree.ok, tyd_inj, packAV, AV.same, AV.same.sameL, encV, encS, enc, inK, Nd.ok, List.headD_cons, List.cons_append, List.nil_append, List.append_nil, true_and, and_true, Bool.true_and, Bool.and_true, loop_next, weakBs_nil, weakBs_cons, weakB_self, weakB_row, weakB_int, weakL_nil, weakL_unk, weakL_guess, isRow_own, isRow_unk, weakL_int, weakL_bool, weakL_str, weakL_own, weakL_view, weakL_nilS, noRow_int, noRow_bool, own_inj, LTree.val, cond_true, cond_false, Prod.mk.injEq, List.cons.injEq, AV.int.injEq, AV.bool.injEq, AV.str.injEq, AV.agg.injEq, ann_l02Int_0, decide_eq_true_eq, decide_eq_false_iff_not]
  refine ⟨fun ha => ?_, fun ha => ?_⟩
  · have hb : ((t.getD i.toNat 0).toNat : Int) ≤ 255 := by have := (t.getD i.toNat 0).toNat_lt; omega
    rw [foldD_at t i.toNat n (by omega), show (i + 1).toNat = i.toNat + 1 by omega, Int.pow_succ]
    have hp19 := p18 (k := i.toNat + 1) (by omega)
    rw [Int.pow_succ] at hp19
    generalize ((t.getD i.toNat 0).toNat : Int) = b at *
    generalize (10 : Int) ^ i.toNat = q at *
    by_cases h1 : 48 ≤ b ∧ b ≤ 57
    · simp only [h1, decide_true, Bool.and_self, if_true, and_self, Bool.not_true, Bool.false_eq_true, false_implies, true_implies, not_true_eq_false, not_false_eq_true]
      repeat' first | apply And.intro | intro _
      all_goals first | omega | trivial | rfl | contradiction | (simp [Tree.ok, tyd_inj, packAV, AV.same, AV.same.sameL, encV, encS, enc, inK, Nd.ok, List.headD_cons, List.cons_append, List.nil_append, List.append_nil, true_and, and_true, Bool.true_and, Bool.and_true, loop_next, weakBs_nil, weakBs_cons, weakB_self, weakB_row, weakB_int, weakL_nil, weakL_unk, weakL_guess, isRow_own, isRow_unk, weakL_int, weakL_bool, weakL_str, weakL_own, weakL_view, weakL_nilS, noRow_int, noRow_bool, own_inj, LTree.val, cond_true, cond_false, Prod.mk.injEq, List.cons.injEq, AV.int.injEq, AV.bool.injEq, AV.str.injEq, AV.agg.injEq]; done) | (simp_all [Tree.ok, tyd_inj, packAV, AV.same, AV.same.sameL, encV, encS, enc, inK, Nd.ok, List.headD_cons, List.cons_append, List.nil_append, List.append_nil, true_and, and_true, Bool.true_and, Bool.and_true, loop_next, weakBs_nil, weakBs_cons, weakB_self, weakB_row, weakB_int, weakL_nil, weakL_unk, weakL_guess, isRow_own, isRow_unk, weakL_int, weakL_bool, weakL_str, weakL_own, weakL_view, weakL_nilS, noRow_int, noRow_bool, own_inj, LTree.val, cond_true, cond_false, Prod.mk.injEq, List.cons.injEq, AV.int.injEq, AV.bool.injEq, AV.str.injEq, AV.agg.injEq]; done) | (trace_state; fail)
    · have h2 : (decide (48 ≤ b) && decide (b ≤ 57)) = false := by simp; omega
      simp only [h1, h2, if_false, Bool.not_false, Bool.true_eq_false, false_implies, true_implies, Option.isSome_none]
      repeat' first | apply And.intro | intro _
      all_goals first | omega | trivial | rfl | contradiction | (simp [Tree.ok, tyd_inj, packAV, AV.same, AV.same.sameL, encV, encS, enc, inK, Nd.ok, List.headD_cons, List.cons_append, List.nil_append, List.append_nil, true_and, and_true, Bool.true_and, Bool.and_true, loop_next, weakBs_nil, weakBs_cons, weakB_self, weakB_row, weakB_int, weakL_nil, weakL_unk, weakL_guess, isRow_own, isRow_unk, weakL_int, weakL_bool, weakL_str, weakL_own, weakL_view, weakL_nilS, noRow_int, noRow_bool, own_inj, LTree.val, cond_true, cond_false, Prod.mk.injEq, List.cons.injEq, AV.int.injEq, AV.bool.injEq, AV.str.injEq, AV.agg.injEq]; done) | (simp_all [Tree.ok, tyd_inj, packAV, AV.same, AV.same.sameL, encV, encS, enc, inK, Nd.ok, List.headD_cons, List.cons_append, List.nil_append, List.append_nil, true_and, and_true, Bool.true_and, Bool.and_true, loop_next, weakBs_nil, weakBs_cons, weakB_self, weakB_row, weakB_int, weakL_nil, weakL_unk, weakL_guess, isRow_own, isRow_unk, weakL_int, weakL_bool, weakL_str, weakL_own, weakL_view, weakL_nilS, noRow_int, noRow_bool, own_inj, LTree.val, cond_true, cond_false, Prod.mk.injEq, List.cons.injEq, AV.int.injEq, AV.bool.injEq, AV.str.injEq, AV.agg.injEq]; done) | (trace_state; fail)
  · rw [List.drop_eq_nil_of_le (by omega)]
    simp [Tree.ok, tyd_inj, packAV, AV.same, AV.same.sameL, encV, encS, enc, inK, Nd.ok, List.headD_cons, List.cons_append, List.nil_append, List.append_nil, true_and, and_true, Bool.true_and, Bool.and_true, loop_next, weakBs_nil, weakBs_cons, weakB_self, weakB_row, weakB_int, weakL_nil, weakL_unk, weakL_guess, isRow_own, isRow_unk, weakL_int, weakL_bool, weakL_str, weakL_own, weakL_view, weakL_nilS, noRow_int, noRow_bool, own_inj, LTree.val, cond_true, cond_false, Prod.mk.injEq, List.cons.injEq, AV.int.injEq, AV.bool.injEq, AV.str.injEq, AV.agg.injEq, foldD]
theorem loops_l02Int : ∀ c, Tryd.f143.body = some c → LoopsOk Tryd.prog (addL (firstId (loopAt Tryd.f143 0)) ann_l02Int_0 noL) Tryd.f143.ntmps c := loopsN fun i hi ann h => by
  have hn : loopN Tryd.f143 = 1 := by kernel_rfl
  rw [hn] at hi
  exact match i, hi, h with
    | 0, _, h => (Option.some.inj ((show (addL (firstId (loopAt Tryd.f143 0)) ann_l02Int_0 noL) (firstId (loopAt Tryd.f143 0)) = some ann_l02Int_0 from by kernel_rfl).symm.trans h)) ▸ loop_l02Int_0
set_option maxHeartbeats 1000000 in
theorem sat_l02Int : Sat Tryd.prog 143 ct_l02Int := by
  refine sat_typed (C := C_RfB) (L := (addL (firstId (loopAt Tryd.f143 0)) ann_l02Int_0 noL)) (wr := false) mixedOk Tryd.func143 C_RfB_ok (loops_l02Int) (fun _ => by first | rfl | (simp [ownsOf, ownsOf.ownsL, enc, encV, encS])) fun x hp => ?_
  obtain ⟨(s : List UInt8), _⟩ := x
  clear hp
  have htree : exFunc Tryd.prog C_RfB false (addL (firstId (loopAt Tryd.f143 0)) ann_l02Int_0 noL) Tryd.f143 (encA [.v .str] (s, ())) = .ite (!decide (s = ([] : List UInt8))) (.need ((0 : Int) ≤ (0 : Int) ∧ (0 : Int) < (↑s.length : Int)) (.ite ((↑(s.getD (Int.toNat (0 : Int)) (0 : UInt8)).toNat : Int) == (45 : Int)) (.need ((0 : Int) ≤ (1 : Int) ∧ (1 : Int) ≤ (↑s.length : Int)) (.ite (decide (cutL s (1 : Int) (↑s.length : Int) = ([] : List UInt8))) (.leaf [.int .i64 ((0 : Int)), .lit false]) (.ite (decide ((10 : Int) < (↑(cutL s (1 : Int) (↑s.length : Int)).length : Int))) (.leaf [.int .i64 ((0 : Int)), .lit false]) (.need (((0 : Int) ≤ (0 : Int) ∧ (0 : Int) ≤ (↑(cutL s (1 : Int) (↑s.length : Int)).length : Int)) ∧ (cutL s (1 : Int) (↑s.length : Int)).length ≤ (18 : Nat) ∧ (0 : Int) ≤ (0 : Int) ∧ (0 : Int) < (10 : Int) ^ Int.toNat (0 : Int)) (.ite ((foldD (List.drop (Int.toNat (0 : Int)) (cutL s (1 : Int) (↑s.length : Int))) (0 : Int)).isSome) (.ite (decide ((↑(cutL s (1 : Int) (↑s.length : Int)).length : Int) < (↑s.length : Int))) (.need (inK IntKind.i64 ((0 : Int) - (foldD (List.drop (Int.toNat (0 : Int)) (cutL s (1 : Int) (↑s.length : Int))) (0 : Int)).getD (0 : Int))) (.leaf [.int .i64 ((0 : Int) - (foldD (List.drop (Int.toNat (0 : Int)) (cutL s (1 : Int) (↑s.length : Int))) (0 : Int)).getD (0 : Int)), .lit true])) (.leaf [.int .i64 ((foldD (List.drop (Int.toNat (0 : Int)) (cutL s (1 : Int) (↑s.length : Int))) (0 : Int)).getD (0 : Int)), .lit true])) (.leaf [.int .i64 ((0 : Int)), .bool (false)])))))) (.ite (decide (s = ([] : List UInt8))) (.leaf [.int .i64 ((0 : Int)), .lit false]) (.ite (decide ((10 : Int) < (↑s.length : Int))) (.leaf [.int .i64 ((0 : Int)), .lit false]) (.need (((0 : Int) ≤ (0 : Int) ∧ (0 : Int) ≤ (↑s.length : Int)) ∧ s.length ≤ (18 : Nat) ∧ (0 : Int) ≤ (0 : Int) ∧ (0 : Int) < (10 : Int) ^ Int.toNat (0 : Int)) (.ite ((foldD (List.drop (Int.toNat (0 : Int)) s) (0 : Int)).isSome) (.ite (decide ((↑s.length : Int) < (↑s.length : Int))) (.need (inK IntKind.i64 ((0 : Int) - (foldD (List.drop (Int.toNat (0 : Int)) s) (0 : Int)).getD (0 : Int))) (.leaf [.int .i64 ((0 : Int) - (foldD (List.drop (Int.toNat (0 : Int)) s) (0 : Int)).getD (0 : Int)), .lit true])) (.leaf [.int .i64 ((foldD (List.drop (Int.toNat (0 : Int)) s) (0 : Int)).getD (0 : Int)), .lit true])) (.leaf [.int .i64 ((0 : Int)), .bool (false)]))))))) (.ite (decide (s = ([] : List UInt8))) (.leaf [.int .i64 ((0 : Int)), .lit false]) (.ite (decide ((10 : Int) < (↑s.length : Int))) (.leaf [.int .i64 ((0 : Int)), .lit false]) (.need (((0 : Int) ≤ (0 : Int) ∧ (0 : Int) ≤ (↑s.length : Int)) ∧ s.length ≤ (18 : Nat) ∧ (0 : Int) ≤ (0 : Int) ∧ (0 : Int) < (10 : Int) ^ Int.toNat (0 : Int)) (.ite ((foldD (List.drop (Int.toNat (0 : Int)) s) (0 : Int)).isSome) (.ite (decide ((↑s.length : Int) < (↑s.length : Int))) (.need (inK IntKind.i64 ((0 : Int) - (foldD (List.drop (Int.toNat (0 : Int)) s) (0 : Int)).getD (0 : Int))) (.leaf [.int .i64 ((0 : Int) - (foldD (List.drop (Int.toNat (0 : Int)) s) (0 : Int)).getD (0 : Int)), .lit true])) (.leaf [.int .i64 ((foldD (List.drop (Int.toNat (0 : Int)) s) (0 : Int)).getD (0 : Int)), .lit true])) (.leaf [.int .i64 ((0 : Int)), .bool (false)]))))) := by kernel_rfl
  refine (congrArg (Tree.ok _) htree).mpr ?_
  clear htree
  have hV : intF s = if 1 ≤ (stripM s).length ∧ (stripM s).length ≤ 10 then (match foldD (stripM s) 0 with
      | some n => ((if (stripM s).length < s.length then 0 - n else n), true)
      | none => (0, false)) else (0, false) := rfl
  simp only [Tree.ok, tyd_inj, packAV, AV.same, AV.same.sameL, encV, encS, enc, inK, Nd.ok, List.headD_cons, List.cons_append, List.nil_append, List.append_nil, true_and, and_true, Bool.true_and, Bool.and_true, hV, Int.toNat_zero, List.drop_zero]
  clear hV
  cases s with
  | nil => simp [stripM]
  | cons b r =>
    have e1 : cutL (b :: r) 1 ((b :: r).length : Int) = r := by simp [cutL]
    have e4 : cutL (b :: r) 1 ((r.length + 1 : Nat) : Int) = r := e1
    have e5 : decide (b :: r = []) = false := by simp
    have e2 : (b :: r).getD 0 0 = b := rfl
    have e3 : ((b.toNat : Int) == 45) = decide (b = 45) := by
      rw [Bool.eq_iff_iff, beq_iff_eq, decide_eq_true_eq]
      constructor
      · intro h; have : b.toNat = 45 := by omega
        exact UInt8.toNat_inj.1 this
      · rintro rfl; rfl
    have e6 : decide (r = []) = decide (r.length = 0) := by
      rw [Bool.eq_iff_iff, decide_eq_true_eq, decide_eq_true_eq]; exact List.length_eq_zero_iff.symm
    simp only [e5, e1, e2, e3, e6, stripM, decide_eq_true_eq, decide_eq_false_iff_not, List.length_cons, e4, Bool.not_false, Bool.not_true, Bool.false_eq_true, true_implies, Bool.true_eq_false, false_implies]
    by_cases hb : b = 45
    · simp only [hb, if_true, true_implies, not_true_eq_false, false_implies, and_true, true_and, show r.length < r.length + 1 by omega]
      by_cases hl : 1 ≤ r.length ∧ r.length ≤ 10
      · rw [if_pos hl]
        cases hf : foldD r 0 with
        | some m =>
          have hbd := foldD_bd r 0 m 0 (by omega) (by decide) hf
          have h18 := p18 (k := 0 + r.length) (by omega)
          simp only [Option.isSome_some, Option.getD_some]
          repeat' first | apply And.intro | intro _
          all_goals first | omega | trivial | rfl | contradiction | (simp [Tree.ok, tyd_inj, packAV, AV.same, AV.same.sameL, encV, encS, enc, inK, Nd.ok, List.headD_cons, List.cons_append, List.nil_append, List.append_nil, true_and, and_true, Bool.true_and, Bool.and_true]; done) | (simp_all [Tree.ok, tyd_inj, packAV, AV.same, AV.same.sameL, encV, encS, enc, inK, Nd.ok, List.headD_cons, List.cons_append, List.nil_append, List.append_nil, true_and, and_true, Bool.true_and, Bool.and_true]; done) | (trace_state; fail)
        | none =>
          simp only [Option.isSome_none]
          repeat' first | apply And.intro | intro _
          all_goals first | omega | trivial | rfl | contradiction | (simp [Tree.ok, tyd_inj, packAV, AV.same, AV.same.sameL, encV, encS, enc, inK, Nd.ok, List.headD_cons, List.cons_append, List.nil_append, List.append_nil, true_and, and_true, Bool.true_and, Bool.and_true]; done) | (simp_all [Tree.ok, tyd_inj, packAV, AV.same, AV.same.sameL, encV, encS, enc, inK, Nd.ok, List.headD_cons, List.cons_append, List.nil_append, List.append_nil, true_and, and_true, Bool.true_and, Bool.and_true]; done) | (trace_state; fail)
      · rw [if_neg hl]
        repeat' first | apply And.intro | intro _
        all_goals first | omega | trivial | rfl | contradiction | (simp [Tree.ok, tyd_inj, packAV, AV.same, AV.same.sameL, encV, encS, enc, inK, Nd.ok, List.headD_cons, List.cons_append, List.nil_append, List.append_nil, true_and, and_true, Bool.true_and, Bool.and_true]; done) | (simp_all [Tree.ok, tyd_inj, packAV, AV.same, AV.same.sameL, encV, encS, enc, inK, Nd.ok, List.headD_cons, List.cons_append, List.nil_append, List.append_nil, true_and, and_true, Bool.true_and, Bool.and_true]; done) | (trace_state; fail)
    · simp only [hb, if_false, false_implies, true_implies, not_false_eq_true, and_true, true_and, show ¬ (r.length + 1 < r.length + 1) by omega, List.length_cons]
      by_cases hl : 1 ≤ r.length + 1 ∧ r.length + 1 ≤ 10
      · rw [if_pos hl]
        cases hf : foldD (b :: r) 0 with
        | some m =>
          have hbd := foldD_bd (b :: r) 0 m 0 (by omega) (by decide) hf
          rw [List.length_cons] at hbd
          have h18 := p18 (k := 0 + (r.length + 1)) (by omega)
          simp only [Option.isSome_some, Option.getD_some]
          repeat' first | apply And.intro | intro _
          all_goals first | omega | trivial | rfl | contradiction | (simp [Tree.ok, tyd_inj, packAV, AV.same, AV.same.sameL, encV, encS, enc, inK, Nd.ok, List.headD_cons, List.cons_append, List.nil_append, List.append_nil, true_and, and_true, Bool.true_and, Bool.and_true]; done) | (simp_all [Tree.ok, tyd_inj, packAV, AV.same, AV.same.sameL, encV, encS, enc, inK, Nd.ok, List.headD_cons, List.cons_append, List.nil_append, List.append_nil, true_and, and_true, Bool.true_and, Bool.and_true]; done) | (trace_state; fail)
        | none =>
          simp only [Option.isSome_none]
          repeat' first | apply And.intro | intro _
          all_goals first | omega | trivial | rfl | contradiction | (simp [Tree.ok, tyd_inj, packAV, AV.same, AV.same.sameL, encV, encS, enc, inK, Nd.ok, List.headD_cons, List.cons_append, List.nil_append, List.append_nil, true_and, and_true, Bool.true_and, Bool.and_true]; done) | (simp_all [Tree.ok, tyd_inj, packAV, AV.same, AV.same.sameL, encV, encS, enc, inK, Nd.ok, List.headD_cons, List.cons_append, List.nil_append, List.append_nil, true_and, and_true, Bool.true_and, Bool.and_true]; done) | (trace_state; fail)
      · rw [if_neg hl]
        repeat' first | apply And.intro | intro _
        all_goals first | omega | trivial | rfl | contradiction | (simp [Tree.ok, tyd_inj, packAV, AV.same, AV.same.sameL, encV, encS, enc, inK, Nd.ok, List.headD_cons, List.cons_append, List.nil_append, List.append_nil, true_and, and_true, Bool.true_and, Bool.and_true]; done) | (simp_all [Tree.ok, tyd_inj, packAV, AV.same, AV.same.sameL, encV, encS, enc, inK, Nd.ok, List.headD_cons, List.cons_append, List.nil_append, List.append_nil, true_and, and_true, Bool.true_and, Bool.and_true]; done) | (trace_state; fail)
def C_Rf_1 : FuncId → Option Ct := addC 143 ct_l02Int C_RfB
theorem C_Rf_1_ok : COk Tryd.prog C_Rf_1 := addC_ok C_RfB_ok sat_l02Int
theorem frOf_iff (s : List UInt8) (n d : Int × Bool) : frOf s n d = if n.2 = true ∧ d.2 = true ∧ okF n.1 d.1 = true ∧ fracT (n.1, d.1) = s then ((n.1, d.1), true) else ((0, 0), false) := rfl
def ct_iReadFrac : Ct := ctOf [.v .str] (fun ((s : List UInt8), _) => .p (s.length ≤ 2000000)) (fun ((s : List UInt8), _) => .tup [.agg (enc tFrac (frI s).1), .bool (frI s).2])
set_option maxHeartbeats 1000000 in
theorem sat_iReadFrac : Sat Tryd.prog 94 ct_iReadFrac := by
  refine sat_typed (C := C_Rf_1) (L := noL) (wr := false) mixedOk Tryd.func94 C_Rf_1_ok (loops0 (by kernel_rfl)) (fun _ => by first | rfl | (simp [ownsOf, ownsOf.ownsL, enc, encV, encS])) fun x hp => ?_
  obtain ⟨(s : List UInt8), _⟩ := x
  replace hp : s.length ≤ 2000000 := hp
  have htree : exFunc Tryd.prog C_Rf_1 false noL Tryd.f94 (encA [.v .str] (s, ())) = .need (s.length ≤ (4000000000 : Nat)) (.need ((Lib.cut s #[(47 : UInt8)].toList).fst.length ≤ (100000000 : Nat)) (.ite ((Lib.cut s #[(47 : UInt8)].toList).snd.snd) (.need ((Lib.cut s #[(47 : UInt8)].toList).snd.fst.length ≤ (100000000 : Nat)) (.ite (!(readD (Lib.cut s #[(47 : UInt8)].toList).fst).snd) (.leaf [.agg [.int .i64 ((0 : Int)), .int .i64 ((0 : Int))], .lit false]) (.ite (!(readD (Lib.cut s #[(47 : UInt8)].toList).snd.fst).snd) (.leaf [.agg [.int .i64 ((0 : Int)), .int .i64 ((0 : Int))], .lit false]) (.ite (!okF (readD (Lib.cut s #[(47 : UInt8)].toList).fst).fst (readD (Lib.cut s #[(47 : UInt8)].toList).snd.fst).fst) (.leaf [.agg [.int .i64 ((0 : Int)), .int .i64 ((0 : Int))], .lit false]) (.ite (!decide ((if okF (readD (Lib.cut s #[(47 : UInt8)].toList).fst).fst (readD (Lib.cut s #[(47 : UInt8)].toList).snd.fst).fst = true then fracT ((readD (Lib.cut s #[(47 : UInt8)].toList).fst).fst, (readD (Lib.cut s #[(47 : UInt8)].toList).snd.fst).fst) else []) = s)) (.leaf [.agg [.int .i64 ((0 : Int)), .int .i64 ((0 : Int))], .lit false]) (.leaf [.agg [.int .i64 ((readD (Lib.cut s #[(47 : UInt8)].toList).fst).fst), .int .i64 ((readD (Lib.cut s #[(47 : UInt8)].toList).snd.fst).fst)], .lit true])))))) (.ite (!(readD (Lib.cut s #[(47 : UInt8)].toList).fst).snd) (.leaf [.agg [.int .i64 ((0 : Int)), .int .i64 ((0 : Int))], .lit false]) (.ite (!okF (readD (Lib.cut s #[(47 : UInt8)].toList).fst).fst (1 : Int)) (.leaf [.agg [.int .i64 ((0 : Int)), .int .i64 ((0 : Int))], .lit false]) (.ite (!decide ((if okF (readD (Lib.cut s #[(47 : UInt8)].toList).fst).fst (1 : Int) = true then fracT ((readD (Lib.cut s #[(47 : UInt8)].toList).fst).fst, (1 : Int)) else []) = s)) (.leaf [.agg [.int .i64 ((0 : Int)), .int .i64 ((0 : Int))], .lit false]) (.leaf [.agg [.int .i64 ((readD (Lib.cut s #[(47 : UInt8)].toList).fst).fst), .int .i64 ((1 : Int))], .lit true])))))) := by kernel_rfl
  refine (congrArg (Tree.ok _) htree).mpr ?_
  clear htree
  have hp : s.length ≤ 2000000 := hp
  have hl := cutC_len 47 s
  have hV : frI s = frOf s (readD (cutC 47 s).1) (if (cutC 47 s).2.2 = true then readD (cutC 47 s).2.1 else (1, true)) := rfl
  have hc : Go.Lib.cut s #[(47 : UInt8)].toList = cutC 47 s := rfl
  simp only [Tree.ok, tyd_inj, packAV, AV.same, AV.same.sameL, encV, encS, enc, inK, Nd.ok, List.headD_cons, List.cons_append, List.nil_append, List.append_nil, true_and, and_true, Bool.true_and, Bool.and_true, hc, hV, frOf_iff]
  clear hV hc
  generalize cutC 47 s = c at *
  obtain ⟨c1, c2, c3⟩ := c
  simp only at hl ⊢
  generalize readD c1 = n at *
  generalize readD c2 = d at *
  obtain ⟨n1, n2⟩ := n
  obtain ⟨d1, d2⟩ := d
  cases c3
  · simp only [Bool.false_eq_true, if_false]
    cases n2
    · simp
      omega
    · cases hk : okF n1 1
      · simp [hk]
        omega
      · simp only [hk, if_true, Bool.not_true, Bool.false_eq_true, true_and]
        by_cases hf : fracT (n1, 1) = s
        · simp only [hf, if_true, decide_true, Bool.not_true, Bool.false_eq_true, false_implies, true_implies]
          repeat' first | apply And.intro | intro _
          all_goals first | omega | trivial | rfl | contradiction | (trace_state; fail)
        · simp only [hf, if_false, decide_false, Bool.not_false, true_implies, Bool.true_eq_false, false_implies]
          repeat' first | apply And.intro | intro _
          all_goals first | omega | trivial | rfl | contradiction | (trace_state; fail)
  · simp only [if_true]
    cases n2
    · simp
      omega
    · cases d2
      · simp
        omega
      · cases hk : okF n1 d1
        · simp [hk]
          omega
        · simp only [hk, if_true, Bool.not_true, Bool.false_eq_true, true_and]
          by_cases hf : fracT (n1, d1) = s
          · simp only [hf, if_true, decide_true, Bool.not_true, Bool.false_eq_true, false_implies, true_implies]
            repeat' first | apply And.intro | intro _
            all_goals first | omega | trivial | rfl | contradiction | (trace_state; fail)
          · simp only [hf, if_false, decide_false, Bool.not_false, true_implies, Bool.true_eq_false, false_implies]
            repeat' first | apply And.intro | intro _
            all_goals first | omega | trivial | rfl | contradiction | (trace_state; fail)
def C_Rf_2 : FuncId → Option Ct := addC 94 ct_iReadFrac C_Rf_1
theorem C_Rf_2_ok : COk Tryd.prog C_Rf_2 := addC_ok C_Rf_1_ok sat_iReadFrac
theorem byte47 (b : UInt8) : ((b.toNat : Int) == 47) = decide (b = 47) := by
  rw [Bool.eq_iff_iff, beq_iff_eq, decide_eq_true_eq]
  constructor
  · intro h; have : b.toNat = 47 := by omega
    exact UInt8.toNat_inj.1 this
  · rintro rfl; rfl
theorem cut_here {c : UInt8} {s : List UInt8} {i : Nat} (hi : i < s.length) (h : c ∉ s.take i) (hb : s.getD i 0 = c) : cutC c s = (cutL s 0 (i : Int), cutL s ((i : Int) + 1) (s.length : Int), true) := by
  have e : s = s.take i ++ c :: s.drop (i + 1) := by
    have e1 := (List.take_append_drop i s).symm
    rw [List.drop_eq_getElem_cons hi] at e1
    rw [getD_lt s i 0 hi] at hb
    rw [hb] at e1; exact e1
  have e2 : cutL s 0 (i : Int) = s.take i := by simp [cutL]
  have e3 : cutL s ((i : Int) + 1) (s.length : Int) = s.drop (i + 1) := by
    unfold cutL
    rw [show ((s.length : Int)).toNat = s.length by omega, List.take_length, show ((i : Int) + 1).toNat = i + 1 by omega]
  rw [e2, e3]
  conv => lhs; rw [e]
  exact cutC_hit _ _ h
theorem take_more {c : UInt8} {s : List UInt8} {i : Nat} (hi : i < s.length) (h : c ∉ s.take i) (hb : s.getD i 0 ≠ c) : c ∉ s.take (i + 1) := by
  rw [List.take_succ_eq_append_getElem hi]
  rw [getD_lt s i 0 hi] at hb
  intro hm
  rcases List.mem_append.1 hm with h1 | h1
  · exact h h1
  · exact hb (List.mem_singleton.1 h1).symm
def ct_sFracText : Ct := ctOf [.s tFrac] (fun _ => .tt) (fun (((a : Int), (b : Int)), _) => .str (if okF a b = true then fracT (a, b) else []))
set_option maxHeartbeats 1000000 in
theorem sat_sFracText : Sat Tryd.prog 144 ct_sFracText := by
  refine sat_typed (C := C_Rf_2) (L := noL) (wr := false) mixedOk Tryd.func144 C_Rf_2_ok (loops0 (by kernel_rfl)) (fun _ => by first | rfl | (simp [ownsOf, ownsOf.ownsL, enc, encV, encS])) fun x hp => ?_
  obtain ⟨⟨(a : Int), (b : Int)⟩, _⟩ := x
  clear hp
  have htree : exFunc Tryd.prog C_Rf_2 false noL Tryd.f144 (encA [.s tFrac] ((a, b), ())) = .ite (!okF a b) (.leaf [.str (#[].toList)]) (.need (okF a b = true) (.leaf [.str (fracT (a, b))])) := by kernel_rfl
  refine (congrArg (Tree.ok _) htree).mpr ?_
  clear htree
  cases hk : okF a b
  · simp only [Tree.ok, tyd_inj, packAV, AV.same, AV.same.sameL, encV, encS, enc, inK, Nd.ok, List.headD_cons, List.cons_append, List.nil_append, List.append_nil, true_and, and_true, Bool.true_and, Bool.and_true, hk]
    simp
  simp only [Tree.ok, tyd_inj, packAV, AV.same, AV.same.sameL, encV, encS, enc, inK, Nd.ok, List.headD_cons, List.cons_append, List.nil_append, List.append_nil, true_and, and_true, Bool.true_and, Bool.and_true, hk, Bool.not_true, Bool.false_eq_true, if_true]
  repeat' first | apply And.intro | intro _
  all_goals first | omega | trivial | rfl | contradiction
def C_Rf_3 : FuncId → Option Ct := addC 144 ct_sFracText C_Rf_2
theorem C_Rf_3_ok : COk Tryd.prog C_Rf_3 := addC_ok C_Rf_2_ok sat_sFracText
def ann_sReadFrac_0 : LAnn := { sameS := [0, 2, 4], modS := [3, 5, 6], sameH := [], modH := [2, 4], base := 900000, nilE := [], nilB := [], G := fun
  | ⟨[.str s, .ptr 2 0, .ptr 4 0], [], [.bool r, .str h, .int .i64 i], [[.int .i64 a, .int .i64 b], [.int .i64 n, .int .i64 d]]⟩ => some (.p ((0 ≤ i ∧ i ≤ (s.length : Int)) ∧ s.length ≤ 2000000 ∧ 47 ∉ s.take i.toNat ∧ h = s ∧ (a = 0 ∧ b = 0)), .ite (cutC 47 s).2.2 (.ite (intF (cutC 47 s).2.1).2 (.leaf (.exit 0) [.bool r, .str (cutC 47 s).1, .unk] [[.int .i64 0, .int .i64 0], [.int .i64 n, .int .i64 (intF (cutC 47 s).2.1).1]]) (.leaf .ret [.bool false, .unk, .unk] [[.int .i64 0, .int .i64 0], [.unk, .unk]])) (.leaf (.exit 0) [.bool r, .str s, .unk] [[.int .i64 0, .int .i64 0], [.int .i64 n, .int .i64 d]]))
  | _ => none }
def ct_sReadFrac : Ct := ctOf [.v .str] (fun ((s : List UInt8), _) => .p (s.length ≤ 2000000)) (fun ((s : List UInt8), _) => .tup [.agg (enc tFrac (frI s).1), .bool (frI s).2])
set_option maxHeartbeats 1000000 in
theorem loop_sReadFrac_0 : LoopSat Tryd.prog Tryd.f93.ntmps (loopAt Tryd.f93 0) ann_sReadFrac_0 := by
  refine loopSat_of (C := C_Rf_3) (L := (addL (firstId (loopAt Tryd.f93 0)) ann_sReadFrac_0 noL)) (wr := false) mixedOk C_Rf_3_ok (loopsIn0 (by kernel_rfl)) (fun d => match d.same, d.vals with | [.str s, _, _], [_, _, .int _ i] => ((s.length : Int) - i).toNat | _, _ => 0) fun d p t hG hp => ?_
  simp only [ann_sReadFrac_0] at hG
  split at hG
  rotate_left
  · simp at hG
  rename_i s r h i a b n d
  simp only [Option.some.injEq, Prod.mk.injEq] at hG
  obtain ⟨rfl, rfl⟩ := hG
  have htree : exRound Tryd.prog C_Rf_3 false (addL (firstId (loopAt Tryd.f93 0)) ann_sReadFrac_0 noL) Tryd.f93.ntmps ann_sReadFrac_0 (loopAt Tryd.f93 0) ⟨[.str s, .ptr 2 0, .ptr 4 0], [], [.bool r, .str h, .int .i64 i], [[.int .i64 a, .int .i64 b], [.int .i64 n, .int .i64 d]]⟩ = .ite (decide (i < (↑s.length : Int))) (.need ((0 : Int) ≤ i ∧ i < (↑s.length : Int)) (.ite ((↑(s.getD i.toNat (0 : UInt8)).toNat : Int) == (47 : Int)) (.need ((0 : Int) ≤ i ∧ i ≤ (↑s.length : Int)) (.need (inK IntKind.i64 (i + (1 : Int))) (.need ((0 : Int) ≤ i + (1 : Int) ∧ i + (1 : Int) ≤ (↑s.length : Int)) (.ite (!(intF (cutL s (i + (1 : Int)) (↑s.length : Int))).snd) (.leaf (.ret, ⟨[.str (s), .ptr 2 0, .ptr 4 0], [], [.bool (false), .str (cutL s (0 : Int) i), .int .i64 (i)], [[.int .i64 ((0 : Int)), .int .i64 ((0 : Int))], [.int .i64 (n), .int .i64 (d)]]⟩)) (.leaf ((.exit 0), ⟨[.str (s), .ptr 2 0, .ptr 4 0], [], [.bool (r), .str (cutL s (0 : Int) i), .int .i64 (i)], [[.int .i64 (a), .int .i64 (b)], [.int .i64 (n), .int .i64 ((intF (cutL s (i + (1 : Int)) (↑s.length : Int))).fst)]]⟩)))))) (.need (inK IntKind.i64 (i + (1 : Int))) (.leaf (.normal, ⟨[.str (s), .ptr 2 0, .ptr 4 0], [], [.bool (r), .str (h), .int .i64 (i + (1 : Int))], [[.int .i64 (a), .int .i64 (b)], [.int .i64 (n), .int .i64 (d)]]⟩))))) (.leaf ((.exit 0), ⟨[.str (s), .ptr 2 0, .ptr 4 0], [], [.bool (r), .str (h), .int .i64 (i)], [[.int .i64 (a), .int .i64 (b)], [.int .i64 (n), .int .i64 (d)]]⟩)) := by kernel_rfl
  rw [htree]
  clear htree
  replace hp : (0 ≤ i ∧ i ≤ (s.length : Int)) ∧ s.length ≤ 2000000 ∧ 47 ∉ s.take i.toNat ∧ h = s ∧ (a = 0 ∧ b = 0) := hp
  obtain ⟨hi, hl, hm, rfl, rfl, rfl⟩ := hp
  simp only [Tree.ok, tyd_inj, packAV, AV.same, AV.same.sameL, encV, encS, enc, inK, Nd.ok, List.headD_cons, List.cons_append, List.nil_append, List.append_nil, true_and, and_true, Bool.true_and, Bool.and_true, loop_next, weakBs_nil, weakBs_cons, weakB_self, weakB_row, weakB_int, weakL_nil, weakL_unk, weakL_guess, isRow_own, isRow_unk, weakL_int, weakL_bool, weakL_str, weakL_own, weakL_view, weakL_nilS, noRow_int, noRow_bool, own_inj, LTree.val, cond_true, cond_false, Prod.mk.injEq, List.cons.injEq, AV.int.injEq, AV.bool.injEq, AV.str.injEq, AV.agg.injEq, ann_sReadFrac_0, byte47, decide_eq_true_eq, decide_eq_false_iff_not]
  refine ⟨fun ha => ?_, fun ha => ?_⟩
  · by_cases hb : h.getD i.toNat 0 = 47
    · have hc := cut_here (c := 47) (s := h) (i := i.toNat) (by omega) hm hb
      have e1 : ((i.toNat : Nat) : Int) = i := by omega
      rw [e1] at hc
      rw [hc]
      simp only [hb]
      cases hq : (intF (cutL h (i + 1) (h.length : Int))).2
      · simp only [Bool.not_false, Bool.false_eq_true, true_implies, false_implies, Bool.true_eq_false, not_true_eq_false]
        repeat' first | apply And.intro | intro _
        all_goals first | omega | trivial | rfl | contradiction | (simp [Tree.ok, tyd_inj, packAV, AV.same, AV.same.sameL, encV, encS, enc, inK, Nd.ok, List.headD_cons, List.cons_append, List.nil_append, List.append_nil, true_and, and_true, Bool.true_and, Bool.and_true, loop_next, weakBs_nil, weakBs_cons, weakB_self, weakB_row, weakB_int, weakL_nil, weakL_unk, weakL_guess, isRow_own, isRow_unk, weakL_int, weakL_bool, weakL_str, weakL_own, weakL_view, weakL_nilS, noRow_int, noRow_bool, own_inj, LTree.val, cond_true, cond_false, Prod.mk.injEq, List.cons.injEq, AV.int.injEq, AV.bool.injEq, AV.str.injEq, AV.agg.injEq]; done) | (simp_all [Tree.ok, tyd_inj, packAV, AV.same, AV.same.sameL, encV, encS, enc, inK, Nd.ok, List.headD_cons, List.cons_append, List.nil_append, List.append_nil, true_and, and_true, Bool.true_and, Bool.and_true, loop_next, weakBs_nil, weakBs_cons, weakB_self, weakB_row, weakB_int, weakL_nil, weakL_unk, weakL_guess, isRow_own, isRow_unk, weakL_int, weakL_bool, weakL_str, weakL_own, weakL_view, weakL_nilS, noRow_int, noRow_bool, own_inj, LTree.val, cond_true, cond_false, Prod.mk.injEq, List.cons.injEq, AV.int.injEq, AV.bool.injEq, AV.str.injEq, AV.agg.injEq]; done) | (trace_state; fail)
      · simp only [Bool.not_true, Bool.false_eq_true, true_implies, false_implies, Bool.true_eq_false, not_true_eq_false]
        repeat' first | apply And.intro | intro _
        all_goals first | omega | trivial | rfl | contradiction | (simp [Tree.ok, tyd_inj, packAV, AV.same, AV.same.sameL, encV, encS, enc, inK, Nd.ok, List.headD_cons, List.cons_append, List.nil_append, List.append_nil, true_and, and_true, Bool.true_and, Bool.and_true, loop_next, weakBs_nil, weakBs_cons, weakB_self, weakB_row, weakB_int, weakL_nil, weakL_unk, weakL_guess, isRow_own, isRow_unk, weakL_int, weakL_bool, weakL_str, weakL_own, weakL_view, weakL_nilS, noRow_int, noRow_bool, own_inj, LTree.val, cond_true, cond_false, Prod.mk.injEq, List.cons.injEq, AV.int.injEq, AV.bool.injEq, AV.str.injEq, AV.agg.injEq]; done) | (simp_all [Tree.ok, tyd_inj, packAV, AV.same, AV.same.sameL, encV, encS, enc, inK, Nd.ok, List.headD_cons, List.cons_append, List.nil_append, List.append_nil, true_and, and_true, Bool.true_and, Bool.and_true, loop_next, weakBs_nil, weakBs_cons, weakB_self, weakB_row, weakB_int, weakL_nil, weakL_unk, weakL_guess, isRow_own, isRow_unk, weakL_int, weakL_bool, weakL_str, weakL_own, weakL_view, weakL_nilS, noRow_int, noRow_bool, own_inj, LTree.val, cond_true, cond_false, Prod.mk.injEq, List.cons.injEq, AV.int.injEq, AV.bool.injEq, AV.str.injEq, AV.agg.injEq]; done) | (trace_state; fail)
    · have hm2 := take_more (c := 47) (s := h) (i := i.toNat) (by omega) hm hb
      simp only [hb, false_implies, not_false_eq_true, true_implies]
      rw [show (i + 1).toNat = i.toNat + 1 by omega]
      repeat' first | apply And.intro | intro _
      all_goals first | omega | exact hm2 | trivial | rfl | contradiction | (simp [Tree.ok, tyd_inj, packAV, AV.same, AV.same.sameL, encV, encS, enc, inK, Nd.ok, List.headD_cons, List.cons_append, List.nil_append, List.append_nil, true_and, and_true, Bool.true_and, Bool.and_true, loop_next, weakBs_nil, weakBs_cons, weakB_self, weakB_row, weakB_int, weakL_nil, weakL_unk, weakL_guess, isRow_own, isRow_unk, weakL_int, weakL_bool, weakL_str, weakL_own, weakL_view, weakL_nilS, noRow_int, noRow_bool, own_inj, LTree.val, cond_true, cond_false, Prod.mk.injEq, List.cons.injEq, AV.int.injEq, AV.bool.injEq, AV.str.injEq, AV.agg.injEq]; done) | (simp_all [Tree.ok, tyd_inj, packAV, AV.same, AV.same.sameL, encV, encS, enc, inK, Nd.ok, List.headD_cons, List.cons_append, List.nil_append, List.append_nil, true_and, and_true, Bool.true_and, Bool.and_true, loop_next, weakBs_nil, weakBs_cons, weakB_self, weakB_row, weakB_int, weakL_nil, weakL_unk, weakL_guess, isRow_own, isRow_unk, weakL_int, weakL_bool, weakL_str, weakL_own, weakL_view, weakL_nilS, noRow_int, noRow_bool, own_inj, LTree.val, cond_true, cond_false, Prod.mk.injEq, List.cons.injEq, AV.int.injEq, AV.bool.injEq, AV.str.injEq, AV.agg.injEq]; done) | (trace_state; fail)
  · have hno : cutC 47 h = (h, [], false) := by
      rw [List.take_of_length_le (by omega)] at hm
      exact cutC_miss _ hm
    rw [hno]
    simp [Tree.ok, tyd_inj, packAV, AV.same, AV.same.sameL, encV, encS, enc, inK, Nd.ok, List.headD_cons, List.cons_append, List.nil_append, List.append_nil, true_and, and_true, Bool.true_and, Bool.and_true, loop_next, weakBs_nil, weakBs_cons, weakB_self, weakB_row, weakB_int, weakL_nil, weakL_unk, weakL_guess, isRow_own, isRow_unk, weakL_int, weakL_bool, weakL_str, weakL_own, weakL_view, weakL_nilS, noRow_int, noRow_bool, own_inj, LTree.val, cond_true, cond_false, Prod.mk.injEq, List.cons.injEq, AV.int.injEq, AV.bool.injEq, AV.str.injEq, AV.agg.injEq]
theorem loops_sReadFrac : ∀ c, Tryd.f93.body = some c → LoopsOk Tryd.prog (addL (firstId (loopAt Tryd.f93 0)) ann_sReadFrac_0 noL) Tryd.f93.ntmps c := loopsN fun i hi ann h => by
  have hn : loopN Tryd.f93 = 1 := by kernel_rfl
  rw [hn] at hi
  exact match i, hi, h with
    | 0, _, h => (Option.some.inj ((show (addL (firstId (loopAt Tryd.f93 0)) ann_sReadFrac_0 noL) (firstId (loopAt Tryd.f93 0)) = some ann_sReadFrac_0 from by kernel_rfl).symm.trans h)) ▸ loop_sReadFrac_0
set_option maxHeartbeats 1000000 in
theorem sat_sReadFrac : Sat Tryd.prog 93 ct_sReadFrac := by
  refine sat_typed (C := C_Rf_3) (L := (addL (firstId (loopAt Tryd.f93 0)) ann_sReadFrac_0 noL)) (wr := false) mixedOk Tryd.func93 C_Rf_3_ok (loops_sReadFrac) (fun _ => by first | rfl | (simp [ownsOf, ownsOf.ownsL, enc, encV, encS])) fun x hp => ?_
  obtain ⟨(s : List UInt8), _⟩ := x
  replace hp : s.length ≤ 2000000 := hp
  have htree : exFunc Tryd.prog C_Rf_3 false (addL (firstId (loopAt Tryd.f93 0)) ann_sReadFrac_0 noL) Tryd.f93 (encA [.v .str] (s, ())) = .need (((0 : Int) ≤ (0 : Int) ∧ (0 : Int) ≤ (↑s.length : Int)) ∧ s.length ≤ (2000000 : Nat) ∧ ¬(47 : UInt8) ∈ List.take (Int.toNat (0 : Int)) s ∧ s = s ∧ (0 : Int) = (0 : Int) ∧ (0 : Int) = (0 : Int)) (.ite ((cutC (47 : UInt8) s).snd.snd) (.ite ((intF (cutC (47 : UInt8) s).snd.fst).snd) (.ite (!(intF (cutC (47 : UInt8) s).fst).snd) (.leaf [.agg [.int .i64 ((0 : Int)), .int .i64 ((0 : Int))], .lit false]) (.ite (!decide ((if okF (intF (cutC (47 : UInt8) s).fst).fst (intF (cutC (47 : UInt8) s).snd.fst).fst = true then fracT ((intF (cutC (47 : UInt8) s).fst).fst, (intF (cutC (47 : UInt8) s).snd.fst).fst) else []) = s)) (.leaf [.agg [.int .i64 ((0 : Int)), .int .i64 ((0 : Int))], .lit false]) (.leaf [.agg [.int .i64 ((intF (cutC (47 : UInt8) s).fst).fst), .int .i64 ((intF (cutC (47 : UInt8) s).snd.fst).fst)], .lit true]))) (.leaf [.agg [.int .i64 ((0 : Int)), .int .i64 ((0 : Int))], .bool (false)])) (.ite (!(intF s).snd) (.leaf [.agg [.int .i64 ((0 : Int)), .int .i64 ((0 : Int))], .lit false]) (.ite (!decide ((if okF (intF s).fst (1 : Int) = true then fracT ((intF s).fst, (1 : Int)) else []) = s)) (.leaf [.agg [.int .i64 ((0 : Int)), .int .i64 ((0 : Int))], .lit false]) (.leaf [.agg [.int .i64 ((intF s).fst), .int .i64 ((1 : Int))], .lit true])))) := by kernel_rfl
  refine (congrArg (Tree.ok _) htree).mpr ?_
  clear htree
  have hp : s.length ≤ 2000000 := hp
  have hV := fr_eq s
  have hW : frS s = frOf s (intF (cutC 47 s).1) (if (cutC 47 s).2.2 = true then intF (cutC 47 s).2.1 else (1, true)) := rfl
  have hm : ∀ c3, (cutC 47 s).2.2 = c3 → c3 = false → (cutC 47 s).1 = s := fun c3 h1 h2 => by
    rcases cutC_cases 47 s with ⟨_, e⟩ | ⟨a, r, _, _, e⟩
    · rw [e]
    · rw [e] at h1; simp at h1; rw [h2] at h1; simp at h1
  simp only [Tree.ok, tyd_inj, packAV, AV.same, AV.same.sameL, encV, encS, enc, inK, Nd.ok, List.headD_cons, List.cons_append, List.nil_append, List.append_nil, true_and, and_true, Bool.true_and, Bool.and_true, ← hV, hW, frOf_iff]
  clear hV hW
  have hne : ∀ n d : Int, (intF s).2 = true → okF n d = false → ¬ (([] : List UInt8) = s) := fun n d h _ e => by
    rw [← e] at h; simp [intF, stripM] at h
  have hb0 : ∀ x, (intF x).2 = false → intF x = (0, false) := fun x h => intF_no h
  generalize hc : cutC 47 s = c at *
  obtain ⟨c1, c2, c3⟩ := c
  simp only at hm ⊢
  cases c3
  · have e := hm false rfl rfl
    subst e
    generalize hn : intF c1 = n at *
    obtain ⟨n1, n2⟩ := n
    simp only [Bool.false_eq_true, if_false]
    cases n2
    · simp
      omega
    · cases hk : okF n1 1
      · have := hne n1 1 rfl hk
        simp [hk, this]
        omega
      · simp only [hk, if_true, Bool.not_true, Bool.false_eq_true, true_and]
        by_cases hf : fracT (n1, 1) = c1
        · simp only [hf, if_true, decide_true, Bool.not_true, Bool.false_eq_true, false_implies, true_implies]
          repeat' first | apply And.intro | intro _
          all_goals first | omega | trivial | rfl | contradiction | (simp; done) | (trace_state; fail)
        · simp only [hf, if_false, decide_false, Bool.not_false, true_implies, Bool.true_eq_false, false_implies]
          repeat' first | apply And.intro | intro _
          all_goals first | omega | trivial | rfl | contradiction | (simp; done) | (trace_state; fail)
  · have hs : ¬ (([] : List UInt8) = s) := fun e => by
      rw [← e] at hc
      have : cutC 47 [] = ([], [], false) := cutC_miss _ (by simp)
      rw [this] at hc; simp at hc
    generalize intF c1 = n at *
    generalize intF c2 = d at *
    obtain ⟨n1, n2⟩ := n
    obtain ⟨d1, d2⟩ := d
    simp only [if_true]
    cases n2
    · cases d2
      · simp
        omega
      · simp
        omega
    · cases d2
      · simp
        omega
      · cases hk : okF n1 d1
        · simp [hk, hs]
          omega
        · simp only [hk, if_true, Bool.not_true, Bool.false_eq_true, true_and]
          by_cases hf : fracT (n1, d1) = s
          · simp only [hf, if_true, decide_true, Bool.not_true, Bool.false_eq_true, false_implies, true_implies]
            repeat' first | apply And.intro | intro _
            all_goals first | omega | trivial | rfl | contradiction | (simp; done) | (trace_state; fail)
          · simp only [hf, if_false, decide_false, Bool.not_false, true_implies, Bool.true_eq_false, false_implies]
            repeat' first | apply And.intro | intro _
            all_goals first | omega | trivial | rfl | contradiction | (simp; done) | (trace_state; fail)
def C_Rf_4 : FuncId → Option Ct := addC 93 ct_sReadFrac C_Rf_3
theorem C_Rf_4_ok : COk Tryd.prog C_Rf_4 := addC_ok C_Rf_3_ok sat_sReadFrac

def C_Rf : FuncId → Option Ct := C_Rf_4
theorem C_Rf_ok : COk Tryd.prog C_Rf := C_Rf_4_ok
end Go.Proofs.YtkeckmdmmbeaiaaDoor
