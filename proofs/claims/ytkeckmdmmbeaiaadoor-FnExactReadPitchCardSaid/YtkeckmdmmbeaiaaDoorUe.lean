/- Contracts: intervals read from their names, by the program and the reference; the law on that. Conditions: as each says. -/
import Derived.Test.YtkeckmdmmbeaiaaDoorUb
import Derived.Test.YtkeckmdmmbeaiaaDoorXaL
set_option linter.unusedSimpArgs false
set_option linter.unusedVariables false
namespace Go.Proofs.YtkeckmdmmbeaiaaDoor
open Go.RowKit Sx
set_option maxRecDepth 100000
set_option maxHeartbeats 1000000
def C_UeB : FuncId → Option Ct := addC 106 ct_l01Dec C_Ub
theorem C_UeB_ok : COk Tryd.prog C_UeB := addC_ok C_Ub_ok sat_l01Dec
/-- Is this text the name of the interval, upwards or downwards? -/
def hitI (s : List UInt8) (n d : Int) : Option (Int × Int) :=
  if nameI n (natF n + d) = s then some (n, natF n + d) else if 0 < n ∧ nameI (-n) (-(natF n + d)) = s then some (-n, -(natF n + d)) else none
def inI (s : List UInt8) (n : Int) : Nat → Int → Option (Int × Int)
  | 0, _ => none
  | k + 1, d => match hitI s n d with
    | some x => some x
    | none => inI s n k (d + 1)
def outI (s : List UInt8) : Nat → Int → Option (Int × Int)
  | 0, _ => none
  | k + 1, n => match inI s n 7 (-3) with
    | some x => some x
    | none => outI s k (n + 1)
theorem natF_28 {n : Int} (h : 0 ≤ n ∧ n ≤ 28) : natF n ≤ 48 := by
  obtain ⟨k, rfl⟩ := Int.eq_ofNat_of_zero_le h.1
  have hk : k ≤ 28 := by omega
  have : ∀ k : Fin 29, natF ((k : Nat) : Int) ≤ 48 := by decide
  exact this ⟨k, by omega⟩
theorem okI_near {n d : Int} (h : 0 ≤ n ∧ n ≤ 28) (hd : -3 ≤ d ∧ d ≤ 3) : okI n (natF n + d) = true := by
  have h1 := natF_28 h
  have h2 := natF_bd n (by omega) (by omega)
  simp only [okI, Bool.and_eq_true, inB_iff, overF]
  rw [if_neg (by omega)]
  refine ⟨by omega, by omega, by omega⟩
def orZ (o : Option (Int × Int)) : Int × Int := match o with
  | some x => x
  | none => (0, 0)
def ann_iReadInterval_0 : LAnn := { sameS := [0, 2], modS := [3, 4], sameH := [], modH := [2], base := 900000, nilE := [], nilB := [], G := fun
  | ⟨[.str s, .ptr 2 0], [], [.bool r, .int .i64 n], [[.int .i64 a, .int .i64 b]]⟩ => some (.p (0 ≤ n ∧ n ≤ 29), .ite (outI s (29 - n).toNat n).isSome (.leaf .ret [.bool true, .unk] [[.int .i64 (orZ (outI s (29 - n).toNat n)).1, .int .i64 (orZ (outI s (29 - n).toNat n)).2]]) (.leaf (.exit 0) [.bool r, .unk] [[.int .i64 a, .int .i64 b]]))
  | _ => none }
def ann_iReadInterval_1 : LAnn := { sameS := [0, 2, 4], modS := [3, 5], sameH := [], modH := [2], base := 950000, nilE := [], nilB := [], G := fun
  | ⟨[.str s, .ptr 2 0, .int .i64 n], [], [.bool r, .int .i64 d], [[.int .i64 a, .int .i64 b]]⟩ => some (.p ((0 ≤ n ∧ n ≤ 28) ∧ -3 ≤ d ∧ d ≤ 4), .ite (inI s n (4 - d).toNat d).isSome (.leaf .ret [.bool true, .unk] [[.int .i64 (orZ (inI s n (4 - d).toNat d)).1, .int .i64 (orZ (inI s n (4 - d).toNat d)).2]]) (.leaf (.exit 2) [.bool r, .unk] [[.int .i64 a, .int .i64 b]]))
  | _ => none }
def ct_iReadInterval : Ct := ctOf [.v .str] (fun _ => .tt) (fun ((s : List UInt8), _) => .tup [.agg (enc tIv (orZ (outI s 29 0))), .bool (outI s 29 0).isSome])
set_option maxHeartbeats 1000000 in
theorem loop_iReadInterval_1 : LoopSat Tryd.prog Tryd.f29.ntmps (loopAt Tryd.f29 1) ann_iReadInterval_1 := by
  refine loopSat_of (C := C_UeB) (L := (addL (firstId (loopAt Tryd.f29 1)) ann_iReadInterval_1 (addL (firstId (loopAt Tryd.f29 0)) ann_iReadInterval_0 noL))) (wr := false) mixedOk C_UeB_ok (loopsIn0 (by kernel_rfl)) (fun d => match d.vals with | [_, .int _ n] => (4 - n).toNat | _ => 0) fun d p t hG hp => ?_
  simp only [ann_iReadInterval_1] at hG
  split at hG
  rotate_left
  · simp at hG
  rename_i s n r d a b
  simp only [Option.some.injEq, Prod.mk.injEq] at hG
  obtain ⟨rfl, rfl⟩ := hG
  have htree : exRound Tryd.prog C_UeB false (addL (firstId (loopAt Tryd.f29 1)) ann_iReadInterval_1 (addL (firstId (loopAt Tryd.f29 0)) ann_iReadInterval_0 noL)) Tryd.f29.ntmps ann_iReadInterval_1 (loopAt Tryd.f29 1) ⟨[.str s, .ptr 2 0, .int .i64 n], [], [.bool r, .int .i64 d], [[.int .i64 a, .int .i64 b]]⟩ = .ite (decide (d ≤ (3 : Int))) (.need ((0 : Int) ≤ n ∧ n ≤ (1000 : Int)) (.need (inK IntKind.i64 (natF n + d)) (.ite (decide ((if okI n (natF n + d) = true then nameI n (natF n + d) else []) = s)) (.leaf (.ret, ⟨[.str (s), .ptr 2 0, .int .i64 (n)], [], [.bool (true), .int .i64 (d)], [[.int .i64 (n), .int .i64 (natF n + d)]]⟩)) (.ite (decide ((0 : Int) < n)) (.need (((-1000 : Int) ≤ n ∧ n ≤ (1000 : Int)) ∧ (-1000 : Int) ≤ natF n + d ∧ natF n + d ≤ (1000 : Int)) (.ite (decide ((if okI (-n) (-(natF n + d)) = true then nameI (-n) (-(natF n + d)) else []) = s)) (.need (((-1000 : Int) ≤ n ∧ n ≤ (1000 : Int)) ∧ (-1000 : Int) ≤ natF n + d ∧ natF n + d ≤ (1000 : Int)) (.leaf (.ret, ⟨[.str (s), .ptr 2 0, .int .i64 (n)], [], [.bool (true), .int .i64 (d)], [[.int .i64 (-n), .int .i64 (-(natF n + d))]]⟩))) (.need (inK IntKind.i64 (d + (1 : Int))) (.leaf (.normal, ⟨[.str (s), .ptr 2 0, .int .i64 (n)], [], [.bool (r), .int .i64 (d + (1 : Int))], [[.int .i64 (a), .int .i64 (b)]]⟩))))) (.need (inK IntKind.i64 (d + (1 : Int))) (.leaf (.normal, ⟨[.str (s), .ptr 2 0, .int .i64 (n)], [], [.bool (r), .int .i64 (d + (1 : Int))], [[.int .i64 (a), .int .i64 (b)]]⟩))))))) (.leaf ((.exit 2), ⟨[.str (s), .ptr 2 0, .int .i64 (n)], [], [.bool (r), .int .i64 (d)], [[.int .i64 (a), .int .i64 (b)]]⟩)) := by kernel_rfl
  rw [htree]
  clear htree
  replace hp : (0 ≤ n ∧ n ≤ 28) ∧ -3 ≤ d ∧ d ≤ 4 := hp
  obtain ⟨hn, hd⟩ := hp
  have hb := natF_bd n (by omega) (by omega)
  simp only [Tree.ok, tyd_inj, packAV, AV.same, AV.same.sameL, encV, encS, enc, inK, Nd.ok, List.headD_cons, List.cons_append, List.nil_append, List.append_nil, true_and, and_true, Bool.true_and, Bool.and_true, loop_next, weakBs_nil, weakBs_cons, weakB_self, weakB_row, weakB_int, weakL_nil, weakL_unk, weakL_guess, isRow_own, isRow_unk, weakL_int, weakL_bool, weakL_str, weakL_own, weakL_view, weakL_nilS, noRow_int, noRow_bool, own_inj, LTree.val, cond_true, cond_false, Prod.mk.injEq, List.cons.injEq, AV.int.injEq, AV.bool.injEq, AV.str.injEq, AV.agg.injEq, ann_iReadInterval_1, decide_eq_true_eq, decide_eq_false_iff_not]
  refine ⟨fun ha => ?_, fun ha => ?_⟩
  · obtain ⟨m, hm⟩ : ∃ m, (4 - d).toNat = m + 1 := ⟨(4 - d).toNat - 1, by omega⟩
    have hk : okI n (natF n + d) = true := okI_near hn ⟨hd.1, ha⟩
    have hk2 := okI_neg hk
    have hb2 : natF n ≤ 48 := natF_28 hn
    rw [hm, show (4 - (d + 1)).toNat = m by omega, inI]
    simp only [hk, hk2, if_true, hitI]
    by_cases h1 : nameI n (natF n + d) = s
    · simp only [h1, if_true, orZ, Option.isSome_some, not_true_eq_false, false_implies, true_implies]
      repeat' first | apply And.intro | intro _
      all_goals first | omega | trivial | rfl | contradiction | (simp [Tree.ok, tyd_inj, packAV, AV.same, AV.same.sameL, encV, encS, enc, inK, Nd.ok, List.headD_cons, List.cons_append, List.nil_append, List.append_nil, true_and, and_true, Bool.true_and, Bool.and_true, loop_next, weakBs_nil, weakBs_cons, weakB_self, weakB_row, weakB_int, weakL_nil, weakL_unk, weakL_guess, isRow_own, isRow_unk, weakL_int, weakL_bool, weakL_str, weakL_own, weakL_view, weakL_nilS, noRow_int, noRow_bool, own_inj, LTree.val, cond_true, cond_false, Prod.mk.injEq, List.cons.injEq, AV.int.injEq, AV.bool.injEq, AV.str.injEq, AV.agg.injEq]; done) | (simp_all [Tree.ok, tyd_inj, packAV, AV.same, AV.same.sameL, encV, encS, enc, inK, Nd.ok, List.headD_cons, List.cons_append, List.nil_append, List.append_nil, true_and, and_true, Bool.true_and, Bool.and_true, loop_next, weakBs_nil, weakBs_cons, weakB_self, weakB_row, weakB_int, weakL_nil, weakL_unk, weakL_guess, isRow_own, isRow_unk, weakL_int, weakL_bool, weakL_str, weakL_own, weakL_view, weakL_nilS, noRow_int, noRow_bool, own_inj, LTree.val, cond_true, cond_false, Prod.mk.injEq, List.cons.injEq, AV.int.injEq, AV.bool.injEq, AV.str.injEq, AV.agg.injEq]; done) | (trace_state; fail)
    · by_cases h2 : 0 < n
      · by_cases h3 : nameI (-n) (-(natF n + d)) = s
        · simp only [h1, h2, h3, if_true, if_false, true_and, orZ, Option.isSome_some, not_true_eq_false, not_false_eq_true, false_implies, true_implies]
          repeat' first | apply And.intro | intro _
          all_goals first | omega | trivial | rfl | contradiction | (simp [Tree.ok, tyd_inj, packAV, AV.same, AV.same.sameL, encV, encS, enc, inK, Nd.ok, List.headD_cons, List.cons_append, List.nil_append, List.append_nil, true_and, and_true, Bool.true_and, Bool.and_true, loop_next, weakBs_nil, weakBs_cons, weakB_self, weakB_row, weakB_int, weakL_nil, weakL_unk, weakL_guess, isRow_own, isRow_unk, weakL_int, weakL_bool, weakL_str, weakL_own, weakL_view, weakL_nilS, noRow_int, noRow_bool, own_inj, LTree.val, cond_true, cond_false, Prod.mk.injEq, List.cons.injEq, AV.int.injEq, AV.bool.injEq, AV.str.injEq, AV.agg.injEq]; done) | (simp_all [Tree.ok, tyd_inj, packAV, AV.same, AV.same.sameL, encV, encS, enc, inK, Nd.ok, List.headD_cons, List.cons_append, List.nil_append, List.append_nil, true_and, and_true, Bool.true_and, Bool.and_true, loop_next, weakBs_nil, weakBs_cons, weakB_self, weakB_row, weakB_int, weakL_nil, weakL_unk, weakL_guess, isRow_own, isRow_unk, weakL_int, weakL_bool, weakL_str, weakL_own, weakL_view, weakL_nilS, noRow_int, noRow_bool, own_inj, LTree.val, cond_true, cond_false, Prod.mk.injEq, List.cons.injEq, AV.int.injEq, AV.bool.injEq, AV.str.injEq, AV.agg.injEq]; done) | (trace_state; fail)
        · simp only [h1, h2, h3, if_true, if_false, true_and, not_true_eq_false, not_false_eq_true, false_implies, true_implies, and_false]
          repeat' first | apply And.intro | intro _
          all_goals first | omega | trivial | rfl | contradiction | (simp [Tree.ok, tyd_inj, packAV, AV.same, AV.same.sameL, encV, encS, enc, inK, Nd.ok, List.headD_cons, List.cons_append, List.nil_append, List.append_nil, true_and, and_true, Bool.true_and, Bool.and_true, loop_next, weakBs_nil, weakBs_cons, weakB_self, weakB_row, weakB_int, weakL_nil, weakL_unk, weakL_guess, isRow_own, isRow_unk, weakL_int, weakL_bool, weakL_str, weakL_own, weakL_view, weakL_nilS, noRow_int, noRow_bool, own_inj, LTree.val, cond_true, cond_false, Prod.mk.injEq, List.cons.injEq, AV.int.injEq, AV.bool.injEq, AV.str.injEq, AV.agg.injEq]; done) | (simp_all [Tree.ok, tyd_inj, packAV, AV.same, AV.same.sameL, encV, encS, enc, inK, Nd.ok, List.headD_cons, List.cons_append, List.nil_append, List.append_nil, true_and, and_true, Bool.true_and, Bool.and_true, loop_next, weakBs_nil, weakBs_cons, weakB_self, weakB_row, weakB_int, weakL_nil, weakL_unk, weakL_guess, isRow_own, isRow_unk, weakL_int, weakL_bool, weakL_str, weakL_own, weakL_view, weakL_nilS, noRow_int, noRow_bool, own_inj, LTree.val, cond_true, cond_false, Prod.mk.injEq, List.cons.injEq, AV.int.injEq, AV.bool.injEq, AV.str.injEq, AV.agg.injEq]; done) | (trace_state; fail)
      · simp only [h1, h2, if_true, if_false, false_and, not_true_eq_false, not_false_eq_true, false_implies, true_implies]
        repeat' first | apply And.intro | intro _
        all_goals first | omega | trivial | rfl | contradiction | (simp [Tree.ok, tyd_inj, packAV, AV.same, AV.same.sameL, encV, encS, enc, inK, Nd.ok, List.headD_cons, List.cons_append, List.nil_append, List.append_nil, true_and, and_true, Bool.true_and, Bool.and_true, loop_next, weakBs_nil, weakBs_cons, weakB_self, weakB_row, weakB_int, weakL_nil, weakL_unk, weakL_guess, isRow_own, isRow_unk, weakL_int, weakL_bool, weakL_str, weakL_own, weakL_view, weakL_nilS, noRow_int, noRow_bool, own_inj, LTree.val, cond_true, cond_false, Prod.mk.injEq, List.cons.injEq, AV.int.injEq, AV.bool.injEq, AV.str.injEq, AV.agg.injEq]; done) | (simp_all [Tree.ok, tyd_inj, packAV, AV.same, AV.same.sameL, encV, encS, enc, inK, Nd.ok, List.headD_cons, List.cons_append, List.nil_append, List.append_nil, true_and, and_true, Bool.true_and, Bool.and_true, loop_next, weakBs_nil, weakBs_cons, weakB_self, weakB_row, weakB_int, weakL_nil, weakL_unk, weakL_guess, isRow_own, isRow_unk, weakL_int, weakL_bool, weakL_str, weakL_own, weakL_view, weakL_nilS, noRow_int, noRow_bool, own_inj, LTree.val, cond_true, cond_false, Prod.mk.injEq, List.cons.injEq, AV.int.injEq, AV.bool.injEq, AV.str.injEq, AV.agg.injEq]; done) | (trace_state; fail)
  · rw [show (4 - d).toNat = 0 by omega]
    simp [Tree.ok, tyd_inj, packAV, AV.same, AV.same.sameL, encV, encS, enc, inK, Nd.ok, List.headD_cons, List.cons_append, List.nil_append, List.append_nil, true_and, and_true, Bool.true_and, Bool.and_true, loop_next, weakBs_nil, weakBs_cons, weakB_self, weakB_row, weakB_int, weakL_nil, weakL_unk, weakL_guess, isRow_own, isRow_unk, weakL_int, weakL_bool, weakL_str, weakL_own, weakL_view, weakL_nilS, noRow_int, noRow_bool, own_inj, LTree.val, cond_true, cond_false, Prod.mk.injEq, List.cons.injEq, AV.int.injEq, AV.bool.injEq, AV.str.injEq, AV.agg.injEq, inI]
set_option maxHeartbeats 1000000 in
theorem loop_iReadInterval_0 : LoopSat Tryd.prog Tryd.f29.ntmps (loopAt Tryd.f29 0) ann_iReadInterval_0 := by
  refine loopSat_of (C := C_UeB) (L := (addL (firstId (loopAt Tryd.f29 1)) ann_iReadInterval_1 (addL (firstId (loopAt Tryd.f29 0)) ann_iReadInterval_0 noL))) (wr := false) mixedOk C_UeB_ok (loopsIn1 (b := loopAt Tryd.f29 1) (by kernel_rfl) (fun ann h => (Option.some.inj ((show (addL (firstId (loopAt Tryd.f29 1)) ann_iReadInterval_1 (addL (firstId (loopAt Tryd.f29 0)) ann_iReadInterval_0 noL)) (firstId (loopAt Tryd.f29 1)) = some ann_iReadInterval_1 from by kernel_rfl).symm.trans h)) ▸ loop_iReadInterval_1)) (fun d => match d.vals with | [_, .int _ n] => (29 - n).toNat | _ => 0) fun d p t hG hp => ?_
  simp only [ann_iReadInterval_0] at hG
  split at hG
  rotate_left
  · simp at hG
  rename_i s r n a b
  simp only [Option.some.injEq, Prod.mk.injEq] at hG
  obtain ⟨rfl, rfl⟩ := hG
  have htree : exRound Tryd.prog C_UeB false (addL (firstId (loopAt Tryd.f29 1)) ann_iReadInterval_1 (addL (firstId (loopAt Tryd.f29 0)) ann_iReadInterval_0 noL)) Tryd.f29.ntmps ann_iReadInterval_0 (loopAt Tryd.f29 0) ⟨[.str s, .ptr 2 0], [], [.bool r, .int .i64 n], [[.int .i64 a, .int .i64 b]]⟩ = .ite (decide (n ≤ (28 : Int))) (.need (((0 : Int) ≤ n ∧ n ≤ (28 : Int)) ∧ (-3 : Int) ≤ (-3 : Int) ∧ (-3 : Int) ≤ (4 : Int)) (.ite ((inI s n ((4 : Int) - (-3 : Int)).toNat (-3 : Int)).isSome) (.leaf (.ret, ⟨[.str (s), .ptr 2 0], [], [.bool (true), .int .i64 (n)], [[.int .i64 ((orZ (inI s n ((4 : Int) - (-3 : Int)).toNat (-3 : Int))).fst), .int .i64 ((orZ (inI s n ((4 : Int) - (-3 : Int)).toNat (-3 : Int))).snd)]]⟩)) (.need (inK IntKind.i64 (n + (1 : Int))) (.leaf (.normal, ⟨[.str (s), .ptr 2 0], [], [.bool (r), .int .i64 (n + (1 : Int))], [[.int .i64 (a), .int .i64 (b)]]⟩))))) (.leaf ((.exit 0), ⟨[.str (s), .ptr 2 0], [], [.bool (r), .int .i64 (n)], [[.int .i64 (a), .int .i64 (b)]]⟩)) := by kernel_rfl
  rw [htree]
  clear htree
  replace hp : 0 ≤ n ∧ n ≤ 29 := hp
  simp only [Tree.ok, tyd_inj, packAV, AV.same, AV.same.sameL, encV, encS, enc, inK, Nd.ok, List.headD_cons, List.cons_append, List.nil_append, List.append_nil, true_and, and_true, Bool.true_and, Bool.and_true, loop_next, weakBs_nil, weakBs_cons, weakB_self, weakB_row, weakB_int, weakL_nil, weakL_unk, weakL_guess, isRow_own, isRow_unk, weakL_int, weakL_bool, weakL_str, weakL_own, weakL_view, weakL_nilS, noRow_int, noRow_bool, own_inj, LTree.val, cond_true, cond_false, Prod.mk.injEq, List.cons.injEq, AV.int.injEq, AV.bool.injEq, AV.str.injEq, AV.agg.injEq, ann_iReadInterval_0, decide_eq_true_eq, decide_eq_false_iff_not]
  refine ⟨fun ha => ?_, fun ha => ?_⟩
  · obtain ⟨m, hm⟩ : ∃ m, (29 - n).toNat = m + 1 := ⟨(29 - n).toNat - 1, by omega⟩
    have e4 : ((4 : Int) - (-3)).toNat = 7 := by decide
    rw [hm, show (29 - (n + 1)).toNat = m by omega, outI]
    simp only [e4]
    cases h : inI s n 7 (-3) with
    | some x =>
      simp only [Option.isSome_some, Option.isSome_none, Bool.false_eq_true, false_implies, true_implies, and_true, true_and, orZ]
      repeat' first | apply And.intro | intro _
      all_goals first | omega | trivial | rfl | contradiction | (simp [Tree.ok, tyd_inj, packAV, AV.same, AV.same.sameL, encV, encS, enc, inK, Nd.ok, List.headD_cons, List.cons_append, List.nil_append, List.append_nil, true_and, and_true, Bool.true_and, Bool.and_true, loop_next, weakBs_nil, weakBs_cons, weakB_self, weakB_row, weakB_int, weakL_nil, weakL_unk, weakL_guess, isRow_own, isRow_unk, weakL_int, weakL_bool, weakL_str, weakL_own, weakL_view, weakL_nilS, noRow_int, noRow_bool, own_inj, LTree.val, cond_true, cond_false, Prod.mk.injEq, List.cons.injEq, AV.int.injEq, AV.bool.injEq, AV.str.injEq, AV.agg.injEq]; done) | (simp_all [Tree.ok, tyd_inj, packAV, AV.same, AV.same.sameL, encV, encS, enc, inK, Nd.ok, List.headD_cons, List.cons_append, List.nil_append, List.append_nil, true_and, and_true, Bool.true_and, Bool.and_true, loop_next, weakBs_nil, weakBs_cons, weakB_self, weakB_row, weakB_int, weakL_nil, weakL_unk, weakL_guess, isRow_own, isRow_unk, weakL_int, weakL_bool, weakL_str, weakL_own, weakL_view, weakL_nilS, noRow_int, noRow_bool, own_inj, LTree.val, cond_true, cond_false, Prod.mk.injEq, List.cons.injEq, AV.int.injEq, AV.bool.injEq, AV.str.injEq, AV.agg.injEq]; done) | (trace_state; fail)
    | none =>
      simp only [Option.isSome_some, Option.isSome_none, Bool.false_eq_true, false_implies, true_implies, and_true, true_and]
      repeat' first | apply And.intro | intro _
      all_goals first | omega | trivial | rfl | contradiction | (simp [Tree.ok, tyd_inj, packAV, AV.same, AV.same.sameL, encV, encS, enc, inK, Nd.ok, List.headD_cons, List.cons_append, List.nil_append, List.append_nil, true_and, and_true, Bool.true_and, Bool.and_true, loop_next, weakBs_nil, weakBs_cons, weakB_self, weakB_row, weakB_int, weakL_nil, weakL_unk, weakL_guess, isRow_own, isRow_unk, weakL_int, weakL_bool, weakL_str, weakL_own, weakL_view, weakL_nilS, noRow_int, noRow_bool, own_inj, LTree.val, cond_true, cond_false, Prod.mk.injEq, List.cons.injEq, AV.int.injEq, AV.bool.injEq, AV.str.injEq, AV.agg.injEq]; done) | (simp_all [Tree.ok, tyd_inj, packAV, AV.same, AV.same.sameL, encV, encS, enc, inK, Nd.ok, List.headD_cons, List.cons_append, List.nil_append, List.append_nil, true_and, and_true, Bool.true_and, Bool.and_true, loop_next, weakBs_nil, weakBs_cons, weakB_self, weakB_row, weakB_int, weakL_nil, weakL_unk, weakL_guess, isRow_own, isRow_unk, weakL_int, weakL_bool, weakL_str, weakL_own, weakL_view, weakL_nilS, noRow_int, noRow_bool, own_inj, LTree.val, cond_true, cond_false, Prod.mk.injEq, List.cons.injEq, AV.int.injEq, AV.bool.injEq, AV.str.injEq, AV.agg.injEq]; done) | (trace_state; fail)
  · rw [show (29 - n).toNat = 0 by omega]
    simp [Tree.ok, tyd_inj, packAV, AV.same, AV.same.sameL, encV, encS, enc, inK, Nd.ok, List.headD_cons, List.cons_append, List.nil_append, List.append_nil, true_and, and_true, Bool.true_and, Bool.and_true, loop_next, weakBs_nil, weakBs_cons, weakB_self, weakB_row, weakB_int, weakL_nil, weakL_unk, weakL_guess, isRow_own, isRow_unk, weakL_int, weakL_bool, weakL_str, weakL_own, weakL_view, weakL_nilS, noRow_int, noRow_bool, own_inj, LTree.val, cond_true, cond_false, Prod.mk.injEq, List.cons.injEq, AV.int.injEq, AV.bool.injEq, AV.str.injEq, AV.agg.injEq, outI]
theorem loops_iReadInterval : ∀ c, Tryd.f29.body = some c → LoopsOk Tryd.prog (addL (firstId (loopAt Tryd.f29 1)) ann_iReadInterval_1 (addL (firstId (loopAt Tryd.f29 0)) ann_iReadInterval_0 noL)) Tryd.f29.ntmps c := loopsN fun i hi ann h => by
  have hn : loopN Tryd.f29 = 2 := by kernel_rfl
  rw [hn] at hi
  exact match i, hi, h with
    | 0, _, h => (Option.some.inj ((show (addL (firstId (loopAt Tryd.f29 1)) ann_iReadInterval_1 (addL (firstId (loopAt Tryd.f29 0)) ann_iReadInterval_0 noL)) (firstId (loopAt Tryd.f29 0)) = some ann_iReadInterval_0 from by kernel_rfl).symm.trans h)) ▸ loop_iReadInterval_0
    | 1, _, h => (Option.some.inj ((show (addL (firstId (loopAt Tryd.f29 1)) ann_iReadInterval_1 (addL (firstId (loopAt Tryd.f29 0)) ann_iReadInterval_0 noL)) (firstId (loopAt Tryd.f29 1)) = some ann_iReadInterval_1 from by kernel_rfl).symm.trans h)) ▸ loop_iReadInterval_1
set_option maxHeartbeats 1000000 in
theorem sat_iReadInterval : Sat Tryd.prog 29 ct_iReadInterval := by
  refine sat_typed (C := C_UeB) (L := (addL (firstId (loopAt Tryd.f29 1)) ann_iReadInterval_1 (addL (firstId (loopAt Tryd.f29 0)) ann_iReadInterval_0 noL))) (wr := false) mixedOk Tryd.func29 C_UeB_ok (loops_iReadInterval) (fun _ => by first | rfl | (simp [ownsOf, ownsOf.ownsL, enc, encV, encS])) fun x hp => ?_
  obtain ⟨(s : List UInt8), _⟩ := x
  clear hp
  have htree : exFunc Tryd.prog C_UeB false (addL (firstId (loopAt Tryd.f29 1)) ann_iReadInterval_1 (addL (firstId (loopAt Tryd.f29 0)) ann_iReadInterval_0 noL)) Tryd.f29 (encA [.v .str] (s, ())) = .need ((0 : Int) ≤ (0 : Int) ∧ (0 : Int) ≤ (29 : Int)) (.ite ((outI s ((29 : Int) - (0 : Int)).toNat (0 : Int)).isSome) (.leaf [.agg [.int .i64 ((orZ (outI s ((29 : Int) - (0 : Int)).toNat (0 : Int))).fst), .int .i64 ((orZ (outI s ((29 : Int) - (0 : Int)).toNat (0 : Int))).snd)], .bool (true)]) (.leaf [.agg [.int .i64 ((0 : Int)), .int .i64 ((0 : Int))], .lit false])) := by kernel_rfl
  refine (congrArg (Tree.ok _) htree).mpr ?_
  clear htree
  simp only [Tree.ok, tyd_inj, packAV, AV.same, AV.same.sameL, encV, encS, enc, inK, Nd.ok, List.headD_cons, List.cons_append, List.nil_append, List.append_nil, true_and, and_true, Bool.true_and, Bool.and_true]
  have e : ((29 : Int) - 0).toNat = 29 := by decide
  simp only [e]
  cases h : outI s 29 0 with
  | some x =>
    simp only [Option.isSome_some, Option.isSome_none, Bool.false_eq_true, false_implies, true_implies, orZ]
    repeat' first | apply And.intro | intro _
    all_goals first | omega | trivial | rfl | contradiction | (simp [Tree.ok, tyd_inj, packAV, AV.same, AV.same.sameL, encV, encS, enc, inK, Nd.ok, List.headD_cons, List.cons_append, List.nil_append, List.append_nil, true_and, and_true, Bool.true_and, Bool.and_true]; done) | (simp_all [Tree.ok, tyd_inj, packAV, AV.same, AV.same.sameL, encV, encS, enc, inK, Nd.ok, List.headD_cons, List.cons_append, List.nil_append, List.append_nil, true_and, and_true, Bool.true_and, Bool.and_true]; done) | (trace_state; fail)
  | none =>
    simp only [Option.isSome_some, Option.isSome_none, Bool.false_eq_true, false_implies, true_implies, orZ]
    repeat' first | apply And.intro | intro _
    all_goals first | omega | trivial | rfl | contradiction | (simp [Tree.ok, tyd_inj, packAV, AV.same, AV.same.sameL, encV, encS, enc, inK, Nd.ok, List.headD_cons, List.cons_append, List.nil_append, List.append_nil, true_and, and_true, Bool.true_and, Bool.and_true]; done) | (simp_all [Tree.ok, tyd_inj, packAV, AV.same, AV.same.sameL, encV, encS, enc, inK, Nd.ok, List.headD_cons, List.cons_append, List.nil_append, List.append_nil, true_and, and_true, Bool.true_and, Bool.and_true]; done) | (trace_state; fail)
def C_Ue_1 : FuncId → Option Ct := addC 29 ct_iReadInterval C_UeB
theorem C_Ue_1_ok : COk Tryd.prog C_Ue_1 := addC_ok C_UeB_ok sat_iReadInterval
def ct_l01Digit : Ct := ctOf [.v (.int .u8)] (fun _ => .tt) (fun ((c : Int), _) => .bool (decide (48 ≤ c) && decide (c ≤ 57)))
set_option maxHeartbeats 1000000 in
theorem sat_l01Digit : Sat Tryd.prog 78 ct_l01Digit := by
  refine sat_typed (C := C_Ue_1) (L := noL) (wr := false) mixedOk Tryd.func78 C_Ue_1_ok (loops0 (by kernel_rfl)) (fun _ => by first | rfl | (simp [ownsOf, ownsOf.ownsL, enc, encV, encS])) fun x hp => ?_
  obtain ⟨(c : Int), _⟩ := x
  clear hp
  have htree : exFunc Tryd.prog C_Ue_1 false noL Tryd.f78 (encA [.v (.int .u8)] (c, ())) = .ite (decide ((48 : Int) ≤ c)) (.leaf [.bool (decide (c ≤ (57 : Int)))]) (.leaf [.lit false]) := by kernel_rfl
  refine (congrArg (Tree.ok _) htree).mpr ?_
  clear htree
  simp only [Tree.ok, tyd_inj, packAV, AV.same, AV.same.sameL, encV, encS, enc, inK, Nd.ok, List.headD_cons, List.cons_append, List.nil_append, List.append_nil, true_and, and_true, Bool.true_and, Bool.and_true]
  repeat' first | apply And.intro | intro _
  all_goals first | omega | trivial | rfl | (simp_all; done) | grind
def C_Ue_2 : FuncId → Option Ct := addC 78 ct_l01Digit C_Ue_1
theorem C_Ue_2_ok : COk Tryd.prog C_Ue_2 := addC_ok C_Ue_1_ok sat_l01Digit
theorem p18 {k : Nat} (h : k ≤ 18) : (10 : Int) ^ k ≤ 1000000000000000000 := by
  have h1 : (10 : Nat) ^ k ≤ 10 ^ 18 := Nat.pow_le_pow_right (by decide) h
  have h2 : (10 : Int) ^ k ≤ 10 ^ 18 := by exact_mod_cast h1
  have h3 : (10 : Int) ^ 18 = 1000000000000000000 := by decide
  omega
theorem foldD_at (t : List UInt8) (i : Nat) (n : Int) (h : i < t.length) : foldD (t.drop i) n = if 48 ≤ ((t.getD i 0).toNat : Int) ∧ ((t.getD i 0).toNat : Int) ≤ 57 then foldD (t.drop (i + 1)) (10 * n + (((t.getD i 0).toNat : Int) - 48)) else none := by
  rw [List.drop_eq_getElem_cons h, getD_lt _ _ _ h, foldD]
def ann_l01Number_0 : LAnn := { sameS := [0, 4], modS := [2, 3, 5, 6], sameH := [], modH := [], base := 900000, nilE := [], nilB := [], G := fun
  | ⟨[.str s, .str t], [], [.int .i64 a, .bool r, .int .i64 n, .int .i64 i], []⟩ => some (.p ((0 ≤ i ∧ i ≤ (t.length : Int)) ∧ t.length ≤ 18 ∧ 0 ≤ n ∧ n < 10 ^ i.toNat), .ite (foldD (t.drop i.toNat) n).isSome (.leaf (.exit 0) [.int .i64 a, .bool r, .int .i64 ((foldD (t.drop i.toNat) n).getD 0), .unk] []) (.leaf .ret [.int .i64 0, .bool false, .unk, .unk] []))
  | _ => none }
def ct_l01Number : Ct := ctOf [.v .str] (fun _ => .tt) (fun ((s : List UInt8), _) => .tup [.int .i64 (readD s).1, .bool (readD s).2])
set_option maxHeartbeats 1000000 in
theorem loop_l01Number_0 : LoopSat Tryd.prog Tryd.f79.ntmps (loopAt Tryd.f79 0) ann_l01Number_0 := by
  refine loopSat_of (C := C_Ue_2) (L := (addL (firstId (loopAt Tryd.f79 0)) ann_l01Number_0 noL)) (wr := false) mixedOk C_Ue_2_ok (loopsIn0 (by kernel_rfl)) (fun d => match d.same, d.vals with | [_, .str t], [_, _, _, .int _ i] => ((t.length : Int) - i).toNat | _, _ => 0) fun d p t hG hp => ?_
  simp only [ann_l01Number_0] at hG
  split at hG
  rotate_left
  · simp at hG
  rename_i s t a r n i
  simp only [Option.some.injEq, Prod.mk.injEq] at hG
  obtain ⟨rfl, rfl⟩ := hG
  have htree : exRound Tryd.prog C_Ue_2 false (addL (firstId (loopAt Tryd.f79 0)) ann_l01Number_0 noL) Tryd.f79.ntmps ann_l01Number_0 (loopAt Tryd.f79 0) ⟨[.str s, .str t], [], [.int .i64 a, .bool r, .int .i64 n, .int .i64 i], []⟩ = .ite (decide (i < (↑t.length : Int))) (.need ((0 : Int) ≤ i ∧ i < (↑t.length : Int)) (.ite (!(decide ((48 : Int) ≤ (↑(t.getD i.toNat (0 : UInt8)).toNat : Int)) && decide ((↑(t.getD i.toNat (0 : UInt8)).toNat : Int) ≤ (57 : Int)))) (.leaf (.ret, ⟨[.str (s), .str (t)], [], [.int .i64 ((0 : Int)), .bool (false), .int .i64 (n), .int .i64 (i)], []⟩)) (.need (inK IntKind.i64 ((10 : Int) * n)) (.need ((0 : Int) ≤ i ∧ i < (↑t.length : Int)) (.need (inK IntKind.u8 ((↑(t.getD i.toNat (0 : UInt8)).toNat : Int) - (48 : Int))) (.need (inK IntKind.i64 ((↑(t.getD i.toNat (0 : UInt8)).toNat : Int) - (48 : Int))) (.need (inK IntKind.i64 ((10 : Int) * n + ((↑(t.getD i.toNat (0 : UInt8)).toNat : Int) - (48 : Int)))) (.need (inK IntKind.i64 (i + (1 : Int))) (.leaf (.normal, ⟨[.str (s), .str (t)], [], [.int .i64 (a), .bool (r), .int .i64 ((10 : Int) * n + ((↑(t.getD i.toNat (0 : UInt8)).toNat : Int) - (48 : Int))), .int .i64 (i + (1 : Int))], []⟩)))))))))) (.leaf ((.exit 0), ⟨[.str (s), .str (t)], [], [.int .i64 (a), .bool (r), .int .i64 (n), .int .i64 (i)], []⟩)) := by kernel_rfl
  rw [htree]
  clear htree
  replace hp : (0 ≤ i ∧ i ≤ (t.length : Int)) ∧ t.length ≤ 18 ∧ 0 ≤ n ∧ n < 10 ^ i.toNat := hp
  obtain ⟨hi, ht, hn, hn2⟩ := hp
  have hp18 := p18 (k := i.toNat) (by omega)
  simp only [Tree.ok, tyd_inj, packAV, AV.same, AV.same.sameL, encV, encS, enc, inK, Nd.ok, List.headD_cons, List.cons_append, List.nil_append, List.append_nil, true_and, and_true, Bool.true_and, Bool.and_true, loop_next, weakBs_nil, weakBs_cons, weakB_self, weakB_row, weakB_int, weakL_nil, weakL_unk, weakL_guess, isRow_own, isRow_unk, weakL_int, weakL_bool, weakL_str, weakL_own, weakL_view, weakL_nilS, noRow_int, noRow_bool, own_inj, LTree.val, cond_true, cond_false, Prod.mk.injEq, List.cons.injEq, AV.int.injEq, AV.bool.injEq, AV.str.injEq, AV.agg.injEq, ann_l01Number_0, decide_eq_true_eq, decide_eq_false_iff_not]
  refine ⟨fun ha => ?_, fun ha => ?_⟩
  · have hb : ((t.getD i.toNat 0).toNat : Int) ≤ 255 := by have := (t.getD i.toNat 0).toNat_lt; omega
    rw [foldD_at t i.toNat n (by omega), show (i + 1).toNat = i.toNat + 1 by omega, Int.pow_succ]
    have hp19 := p18 (k := i.toNat + 1) (by omega)
    rw [Int.pow_succ] at hp19
    generalize ((t.getD i.toNat 0).toNat : Int) = b at *
    generalize (10 : Int) ^ i.toNat = q at *
    by_cases h1 : 48 ≤ b ∧ b ≤ 57
    · simp only [h1, decide_true, Bool.and_self, if_true, and_self, Bool.not_true, Bool.false_eq_true, false_implies, true_implies, not_true_eq_false, not_false_eq_true]
      repeat' first | apply And.intro | intro _
      all_goals first | omega | trivial | rfl | contradiction | (simp [Tree.ok, tyd_inj, packAV, AV.same, AV.same.sameL, encV, encS, enc, inK, Nd.ok, List.headD_cons, List.cons_append, List.nil_append, List.append_nil, true_and, and_true, Bool.true_and, Bool.and_true, loop_next, weakBs_nil, weakBs_cons, weakB_self, weakB_row, weakB_int, weakL_nil, weakL_unk, weakL_guess, isRow_own, isRow_unk, weakL_int, weakL_bool, weakL_str, weakL_own, weakL_view, weakL_nilS, noRow_int, noRow_bool, own_inj, LTree.val, cond_true, cond_false, Prod.mk.injEq, List.cons.injEq, AV.int.injEq, AV.bool.injEq, AV.str.injEq, AV.agg.injEq]; done) | (simp_all [Tree.ok, tyd_inj, packAV, AV.same, AV.same.sameL, encV, encS, enc, inK, Nd.ok, List.headD_cons, List.cons_append, List.nil_append, List.append_nil, true_and, and_true, Bool.true_and, Bool.and_true, loop_next, weakBs_nil, weakBs_cons, weakB_self, weakB_row, weakB_int, weakL_nil, weakL_unk, weakL_guess, isRow_own, isRow_unk, weakL_int, weakL_bool, weakL_str, weakL_own, weakL_view, weakL_nilS, noRow_int, noRow_bool, own_inj, LTree.val, cond_true, cond_false, Prod.mk.injEq, List.cons.injEq, AV.int.injEq, AV.bool.injEq, AV.str.injEq, AV.agg.injEq]; done) | (trace_state; fail)
    · have h2 : (decide (48 ≤ b) && decide (b ≤ 57)) = false := by simp; omega
      simp only [h1, h2, if_false, Bool.not_false, Bool.true_eq_false, false_implies, true_implies, Option.isSome_none]
      repeat' first | apply And.intro | intro _
      all_goals first | omega | trivial | rfl | contradiction | (simp [Tree.ok, tyd_inj, packAV, AV.same, AV.same.sameL, encV, encS, enc, inK, Nd.ok, List.headD_cons, List.cons_append, List.nil_append, List.append_nil, true_and, and_true, Bool.true_and, Bool.and_true, loop_next, weakBs_nil, weakBs_cons, weakB_self, weakB_row, weakB_int, weakL_nil, weakL_unk, weakL_guess, isRow_own, isRow_unk, weakL_int, weakL_bool, weakL_str, weakL_own, weakL_view, weakL_nilS, noRow_int, noRow_bool, own_inj, LTree.val, cond_true, cond_false, Prod.mk.injEq, List.cons.injEq, AV.int.injEq, AV.bool.injEq, AV.str.injEq, AV.agg.injEq]; done) | (simp_all [Tree.ok, tyd_inj, packAV, AV.same, AV.same.sameL, encV, encS, enc, inK, Nd.ok, List.headD_cons, List.cons_append, List.nil_append, List.append_nil, true_and, and_true, Bool.true_and, Bool.and_true, loop_next, weakBs_nil, weakBs_cons, weakB_self, weakB_row, weakB_int, weakL_nil, weakL_unk, weakL_guess, isRow_own, isRow_unk, weakL_int, weakL_bool, weakL_str, weakL_own, weakL_view, weakL_nilS, noRow_int, noRow_bool, own_inj, LTree.val, cond_true, cond_false, Prod.mk.injEq, List.cons.injEq, AV.int.injEq, AV.bool.injEq, AV.str.injEq, AV.agg.injEq]; done) | (trace_state; fail)
  · rw [List.drop_eq_nil_of_le (by omega)]
    simp [Tree.ok, tyd_inj, packAV, AV.same, AV.same.sameL, encV, encS, enc, inK, Nd.ok, List.headD_cons, List.cons_append, List.nil_append, List.append_nil, true_and, and_true, Bool.true_and, Bool.and_true, loop_next, weakBs_nil, weakBs_cons, weakB_self, weakB_row, weakB_int, weakL_nil, weakL_unk, weakL_guess, isRow_own, isRow_unk, weakL_int, weakL_bool, weakL_str, weakL_own, weakL_view, weakL_nilS, noRow_int, noRow_bool, own_inj, LTree.val, cond_true, cond_false, Prod.mk.injEq, List.cons.injEq, AV.int.injEq, AV.bool.injEq, AV.str.injEq, AV.agg.injEq, foldD]
theorem loops_l01Number : ∀ c, Tryd.f79.body = some c → LoopsOk Tryd.prog (addL (firstId (loopAt Tryd.f79 0)) ann_l01Number_0 noL) Tryd.f79.ntmps c := loopsN fun i hi ann h => by
  have hn : loopN Tryd.f79 = 1 := by kernel_rfl
  rw [hn] at hi
  exact match i, hi, h with
    | 0, _, h => (Option.some.inj ((show (addL (firstId (loopAt Tryd.f79 0)) ann_l01Number_0 noL) (firstId (loopAt Tryd.f79 0)) = some ann_l01Number_0 from by kernel_rfl).symm.trans h)) ▸ loop_l01Number_0
set_option maxHeartbeats 1000000 in
theorem sat_l01Number : Sat Tryd.prog 79 ct_l01Number := by
  refine sat_typed (C := C_Ue_2) (L := (addL (firstId (loopAt Tryd.f79 0)) ann_l01Number_0 noL)) (wr := false) mixedOk Tryd.func79 C_Ue_2_ok (loops_l01Number) (fun _ => by first | rfl | (simp [ownsOf, ownsOf.ownsL, enc, encV, encS])) fun x hp => ?_
  obtain ⟨(s : List UInt8), _⟩ := x
  clear hp
  have htree : exFunc Tryd.prog C_Ue_2 false (addL (firstId (loopAt Tryd.f79 0)) ann_l01Number_0 noL) Tryd.f79 (encA [.v .str] (s, ())) = .ite (!decide (s = ([] : List UInt8))) (.need ((0 : Int) ≤ (0 : Int) ∧ (0 : Int) < (↑s.length : Int)) (.ite ((↑(s.getD (Int.toNat (0 : Int)) (0 : UInt8)).toNat : Int) == (45 : Int)) (.need ((0 : Int) ≤ (1 : Int) ∧ (1 : Int) ≤ (↑s.length : Int)) (.ite (decide ((↑(cutL s (1 : Int) (↑s.length : Int)).length : Int) < (1 : Int))) (.leaf [.int .i64 ((0 : Int)), .lit false]) (.ite (decide ((18 : Int) < (↑(cutL s (1 : Int) (↑s.length : Int)).length : Int))) (.leaf [.int .i64 ((0 : Int)), .lit false]) (.need (((0 : Int) ≤ (0 : Int) ∧ (0 : Int) ≤ (↑(cutL s (1 : Int) (↑s.length : Int)).length : Int)) ∧ (cutL s (1 : Int) (↑s.length : Int)).length ≤ (18 : Nat) ∧ (0 : Int) ≤ (0 : Int) ∧ (0 : Int) < (10 : Int) ^ Int.toNat (0 : Int)) (.ite ((foldD (List.drop (Int.toNat (0 : Int)) (cutL s (1 : Int) (↑s.length : Int))) (0 : Int)).isSome) (.ite (decide ((↑(cutL s (1 : Int) (↑s.length : Int)).length : Int) < (↑s.length : Int))) (.need (inK IntKind.i64 ((0 : Int) - (foldD (List.drop (Int.toNat (0 : Int)) (cutL s (1 : Int) (↑s.length : Int))) (0 : Int)).getD (0 : Int))) (.need ((-1000000000000000000 : Int) ≤ (0 : Int) - (foldD (List.drop (Int.toNat (0 : Int)) (cutL s (1 : Int) (↑s.length : Int))) (0 : Int)).getD (0 : Int) ∧ (0 : Int) - (foldD (List.drop (Int.toNat (0 : Int)) (cutL s (1 : Int) (↑s.length : Int))) (0 : Int)).getD (0 : Int) ≤ (1000000000000000000 : Int)) (.ite (!decide (decT ((0 : Int) - (foldD (List.drop (Int.toNat (0 : Int)) (cutL s (1 : Int) (↑s.length : Int))) (0 : Int)).getD (0 : Int)) = s)) (.leaf [.int .i64 ((0 : Int)), .lit false]) (.leaf [.int .i64 ((0 : Int) - (foldD (List.drop (Int.toNat (0 : Int)) (cutL s (1 : Int) (↑s.length : Int))) (0 : Int)).getD (0 : Int)), .lit true])))) (.need ((-1000000000000000000 : Int) ≤ (foldD (List.drop (Int.toNat (0 : Int)) (cutL s (1 : Int) (↑s.length : Int))) (0 : Int)).getD (0 : Int) ∧ (foldD (List.drop (Int.toNat (0 : Int)) (cutL s (1 : Int) (↑s.length : Int))) (0 : Int)).getD (0 : Int) ≤ (1000000000000000000 : Int)) (.ite (!decide (decT ((foldD (List.drop (Int.toNat (0 : Int)) (cutL s (1 : Int) (↑s.length : Int))) (0 : Int)).getD (0 : Int)) = s)) (.leaf [.int .i64 ((0 : Int)), .lit false]) (.leaf [.int .i64 ((foldD (List.drop (Int.toNat (0 : Int)) (cutL s (1 : Int) (↑s.length : Int))) (0 : Int)).getD (0 : Int)), .lit true])))) (.leaf [.int .i64 ((0 : Int)), .bool (false)])))))) (.ite (decide ((↑s.length : Int) < (1 : Int))) (.leaf [.int .i64 ((0 : Int)), .lit false]) (.ite (decide ((18 : Int) < (↑s.length : Int))) (.leaf [.int .i64 ((0 : Int)), .lit false]) (.need (((0 : Int) ≤ (0 : Int) ∧ (0 : Int) ≤ (↑s.length : Int)) ∧ s.length ≤ (18 : Nat) ∧ (0 : Int) ≤ (0 : Int) ∧ (0 : Int) < (10 : Int) ^ Int.toNat (0 : Int)) (.ite ((foldD (List.drop (Int.toNat (0 : Int)) s) (0 : Int)).isSome) (.ite (decide ((↑s.length : Int) < (↑s.length : Int))) (.need (inK IntKind.i64 ((0 : Int) - (foldD (List.drop (Int.toNat (0 : Int)) s) (0 : Int)).getD (0 : Int))) (.need ((-1000000000000000000 : Int) ≤ (0 : Int) - (foldD (List.drop (Int.toNat (0 : Int)) s) (0 : Int)).getD (0 : Int) ∧ (0 : Int) - (foldD (List.drop (Int.toNat (0 : Int)) s) (0 : Int)).getD (0 : Int) ≤ (1000000000000000000 : Int)) (.ite (!decide (decT ((0 : Int) - (foldD (List.drop (Int.toNat (0 : Int)) s) (0 : Int)).getD (0 : Int)) = s)) (.leaf [.int .i64 ((0 : Int)), .lit false]) (.leaf [.int .i64 ((0 : Int) - (foldD (List.drop (Int.toNat (0 : Int)) s) (0 : Int)).getD (0 : Int)), .lit true])))) (.need ((-1000000000000000000 : Int) ≤ (foldD (List.drop (Int.toNat (0 : Int)) s) (0 : Int)).getD (0 : Int) ∧ (foldD (List.drop (Int.toNat (0 : Int)) s) (0 : Int)).getD (0 : Int) ≤ (1000000000000000000 : Int)) (.ite (!decide (decT ((foldD (List.drop (Int.toNat (0 : Int)) s) (0 : Int)).getD (0 : Int)) = s)) (.leaf [.int .i64 ((0 : Int)), .lit false]) (.leaf [.int .i64 ((foldD (List.drop (Int.toNat (0 : Int)) s) (0 : Int)).getD (0 : Int)), .lit true])))) (.leaf [.int .i64 ((0 : Int)), .bool (false)]))))))) (.ite (decide ((↑s.length : Int) < (1 : Int))) (.leaf [.int .i64 ((0 : Int)), .lit false]) (.ite (decide ((18 : Int) < (↑s.length : Int))) (.leaf [.int .i64 ((0 : Int)), .lit false]) (.need (((0 : Int) ≤ (0 : Int) ∧ (0 : Int) ≤ (↑s.length : Int)) ∧ s.length ≤ (18 : Nat) ∧ (0 : Int) ≤ (0 : Int) ∧ (0 : Int) < (10 : Int) ^ Int.toNat (0 : Int)) (.ite ((foldD (List.drop (Int.toNat (0 : Int)) s) (0 : Int)).isSome) (.ite (decide ((↑s.length : Int) < (↑s.length : Int))) (.need (inK IntKind.i64 ((0 : Int) - (foldD (List.drop (Int.toNat (0 : Int)) s) (0 : Int)).getD (0 : Int))) (.need ((-1000000000000000000 : Int) ≤ (0 : Int) - (foldD (List.drop (Int.toNat (0 : Int)) s) (0 : Int)).getD (0 : Int) ∧ (0 : Int) - (foldD (List.drop (Int.toNat (0 : Int)) s) (0 : Int)).getD (0 : Int) ≤ (1000000000000000000 : Int)) (.ite (!decide (decT ((0 : Int) - (foldD (List.drop (Int.toNat (0 : Int)) s) (0 : Int)).getD (0 : Int)) = s)) (.leaf [.int .i64 ((0 : Int)), .lit false]) (.leaf [.int .i64 ((0 : Int) - (foldD (List.drop (Int.toNat (0 : Int)) s) (0 : Int)).getD (0 : Int)), .lit true])))) (.need ((-1000000000000000000 : Int) ≤ (foldD (List.drop (Int.toNat (0 : Int)) s) (0 : Int)).getD (0 : Int) ∧ (foldD (List.drop (Int.toNat (0 : Int)) s) (0 : Int)).getD (0 : Int) ≤ (1000000000000000000 : Int)) (.ite (!decide (decT ((foldD (List.drop (Int.toNat (0 : Int)) s) (0 : Int)).getD (0 : Int)) = s)) (.leaf [.int .i64 ((0 : Int)), .lit false]) (.leaf [.int .i64 ((foldD (List.drop (Int.toNat (0 : Int)) s) (0 : Int)).getD (0 : Int)), .lit true])))) (.leaf [.int .i64 ((0 : Int)), .bool (false)]))))) := by kernel_rfl
  refine (congrArg (Tree.ok _) htree).mpr ?_
  clear htree
  have hN := num_eq s
  simp only [Tree.ok, tyd_inj, packAV, AV.same, AV.same.sameL, encV, encS, enc, inK, Nd.ok, List.headD_cons, List.cons_append, List.nil_append, List.append_nil, true_and, and_true, Bool.true_and, Bool.and_true, ← hN, Int.toNat_zero, List.drop_zero]
  clear hN
  cases s with
  | nil => simp [numF, stripM]
  | cons b r =>
    have e1 : cutL (b :: r) 1 ((b :: r).length : Int) = r := by simp [cutL]
    have e4 : cutL (b :: r) 1 ((r.length + 1 : Nat) : Int) = r := e1
    have e5 : decide (b :: r = []) = false := by simp
    have e2 : (b :: r).getD 0 0 = b := rfl
    have e3 : ((b.toNat : Int) == 45) = decide (b = 45) := by
      rw [Bool.eq_iff_iff, beq_iff_eq, decide_eq_true_eq]
      constructor
      · intro h; have : b.toNat = 45 := by omega
        exact UInt8.toNat_inj.1 this
      · rintro rfl; rfl
    simp only [e5, e1, e2, e3, numF, stripM, decide_eq_true_eq, decide_eq_false_iff_not, List.length_cons, e4, Bool.not_false, true_implies, Bool.true_eq_false, false_implies]
    by_cases hb : b = 45
    · simp only [hb, if_true, true_implies, not_true_eq_false, false_implies, and_true, true_and, show r.length < r.length + 1 by omega]
      by_cases hl : 1 ≤ r.length ∧ r.length ≤ 18
      · rw [if_pos hl]
        cases hf : foldD r 0 with
        | some m =>
          have hbd := foldD_bd r 0 m 0 (by omega) (by decide) hf
          have h18 := p18 (k := 0 + r.length) (by omega)
          simp only [Option.isSome_some, Option.getD_some]
          by_cases hd : decT (0 - m) = 45 :: r
          · simp only [hd, if_true, decide_true, decide_false, Bool.not_true, Bool.not_false, Bool.false_eq_true, Bool.true_eq_false, false_implies, true_implies, and_true, true_and, not_true_eq_false, not_false_eq_true]
            repeat' first | apply And.intro | intro _
            all_goals first | omega | trivial | rfl | contradiction | (simp [Tree.ok, tyd_inj, packAV, AV.same, AV.same.sameL, encV, encS, enc, inK, Nd.ok, List.headD_cons, List.cons_append, List.nil_append, List.append_nil, true_and, and_true, Bool.true_and, Bool.and_true]; done) | (simp_all [Tree.ok, tyd_inj, packAV, AV.same, AV.same.sameL, encV, encS, enc, inK, Nd.ok, List.headD_cons, List.cons_append, List.nil_append, List.append_nil, true_and, and_true, Bool.true_and, Bool.and_true]; done) | (trace_state; fail)
          · simp only [hd, if_false, decide_true, decide_false, Bool.not_true, Bool.not_false, Bool.false_eq_true, Bool.true_eq_false, false_implies, true_implies, and_true, true_and, not_true_eq_false, not_false_eq_true]
            repeat' first | apply And.intro | intro _
            all_goals first | omega | trivial | rfl | contradiction | (simp [Tree.ok, tyd_inj, packAV, AV.same, AV.same.sameL, encV, encS, enc, inK, Nd.ok, List.headD_cons, List.cons_append, List.nil_append, List.append_nil, true_and, and_true, Bool.true_and, Bool.and_true]; done) | (simp_all [Tree.ok, tyd_inj, packAV, AV.same, AV.same.sameL, encV, encS, enc, inK, Nd.ok, List.headD_cons, List.cons_append, List.nil_append, List.append_nil, true_and, and_true, Bool.true_and, Bool.and_true]; done) | (trace_state; fail)
        | none =>
          simp only [Option.isSome_none]
          repeat' first | apply And.intro | intro _
          all_goals first | omega | trivial | rfl | contradiction | (simp [Tree.ok, tyd_inj, packAV, AV.same, AV.same.sameL, encV, encS, enc, inK, Nd.ok, List.headD_cons, List.cons_append, List.nil_append, List.append_nil, true_and, and_true, Bool.true_and, Bool.and_true]; done) | (simp_all [Tree.ok, tyd_inj, packAV, AV.same, AV.same.sameL, encV, encS, enc, inK, Nd.ok, List.headD_cons, List.cons_append, List.nil_append, List.append_nil, true_and, and_true, Bool.true_and, Bool.and_true]; done) | (trace_state; fail)
      · rw [if_neg hl]
        repeat' first | apply And.intro | intro _
        all_goals first | omega | trivial | rfl | contradiction | (simp [Tree.ok, tyd_inj, packAV, AV.same, AV.same.sameL, encV, encS, enc, inK, Nd.ok, List.headD_cons, List.cons_append, List.nil_append, List.append_nil, true_and, and_true, Bool.true_and, Bool.and_true]; done) | (simp_all [Tree.ok, tyd_inj, packAV, AV.same, AV.same.sameL, encV, encS, enc, inK, Nd.ok, List.headD_cons, List.cons_append, List.nil_append, List.append_nil, true_and, and_true, Bool.true_and, Bool.and_true]; done) | (trace_state; fail)
    · simp only [hb, if_false, false_implies, true_implies, not_false_eq_true, and_true, true_and, show ¬ (r.length + 1 < r.length + 1) by omega, List.length_cons]
      by_cases hl : 1 ≤ r.length + 1 ∧ r.length + 1 ≤ 18
      · rw [if_pos hl]
        cases hf : foldD (b :: r) 0 with
        | some m =>
          have hbd := foldD_bd (b :: r) 0 m 0 (by omega) (by decide) hf
          rw [List.length_cons] at hbd
          have h18 := p18 (k := 0 + (r.length + 1)) (by omega)
          simp only [Option.isSome_some, Option.getD_some]
          by_cases hd : decT m = b :: r
          · simp only [hd, if_true, decide_true, decide_false, Bool.not_true, Bool.not_false, Bool.false_eq_true, Bool.true_eq_false, false_implies, true_implies, and_true, true_and, not_true_eq_false, not_false_eq_true]
            repeat' first | apply And.intro | intro _
            all_goals first | omega | trivial | rfl | contradiction | (simp [Tree.ok, tyd_inj, packAV, AV.same, AV.same.sameL, encV, encS, enc, inK, Nd.ok, List.headD_cons, List.cons_append, List.nil_append, List.append_nil, true_and, and_true, Bool.true_and, Bool.and_true]; done) | (simp_all [Tree.ok, tyd_inj, packAV, AV.same, AV.same.sameL, encV, encS, enc, inK, Nd.ok, List.headD_cons, List.cons_append, List.nil_append, List.append_nil, true_and, and_true, Bool.true_and, Bool.and_true]; done) | (trace_state; fail)
          · simp only [hd, if_false, decide_true, decide_false, Bool.not_true, Bool.not_false, Bool.false_eq_true, Bool.true_eq_false, false_implies, true_implies, and_true, true_and, not_true_eq_false, not_false_eq_true]
            repeat' first | apply And.intro | intro _
            all_goals first | omega | trivial | rfl | contradiction | (simp [Tree.ok, tyd_inj, packAV, AV.same, AV.same.sameL, encV, encS, enc, inK, Nd.ok, List.headD_cons, List.cons_append, List.nil_append, List.append_nil, true_and, and_true, Bool.true_and, Bool.and_true]; done) | (simp_all [Tree.ok, tyd_inj, packAV, AV.same, AV.same.sameL, encV, encS, enc, inK, Nd.ok, List.headD_cons, List.cons_append, List.nil_append, List.append_nil, true_and, and_true, Bool.true_and, Bool.and_true]; done) | (trace_state; fail)
        | none =>
          simp only [Option.isSome_none]
          repeat' first | apply And.intro | intro _
          all_goals first | omega | trivial | rfl | contradiction | (simp [Tree.ok, tyd_inj, packAV, AV.same, AV.same.sameL, encV, encS, enc, inK, Nd.ok, List.headD_cons, List.cons_append, List.nil_append, List.append_nil, true_and, and_true, Bool.true_and, Bool.and_true]; done) | (simp_all [Tree.ok, tyd_inj, packAV, AV.same, AV.same.sameL, encV, encS, enc, inK, Nd.ok, List.headD_cons, List.cons_append, List.nil_append, List.append_nil, true_and, and_true, Bool.true_and, Bool.and_true]; done) | (trace_state; fail)
      · rw [if_neg hl]
        repeat' first | apply And.intro | intro _
        all_goals first | omega | trivial | rfl | contradiction | (simp [Tree.ok, tyd_inj, packAV, AV.same, AV.same.sameL, encV, encS, enc, inK, Nd.ok, List.headD_cons, List.cons_append, List.nil_append, List.append_nil, true_and, and_true, Bool.true_and, Bool.and_true]; done) | (simp_all [Tree.ok, tyd_inj, packAV, AV.same, AV.same.sameL, encV, encS, enc, inK, Nd.ok, List.headD_cons, List.cons_append, List.nil_append, List.append_nil, true_and, and_true, Bool.true_and, Bool.and_true]; done) | (trace_state; fail)
def C_Ue_3 : FuncId → Option Ct := addC 79 ct_l01Number C_Ue_2
theorem C_Ue_3_ok : COk Tryd.prog C_Ue_3 := addC_ok C_Ue_2_ok sat_l01Number
/-- Where the digits at the end begin. -/
def dig8 (b : UInt8) : Prop := 48 ≤ (b.toNat : Int) ∧ (b.toNat : Int) ≤ 57
instance (b : UInt8) : Decidable (dig8 b) := by unfold dig8; exact inferInstance
def hdN (s : List UInt8) : Nat → Nat
  | 0 => 0
  | k + 1 => if dig8 (s.getD k 0) then hdN s k else k + 1
theorem hdN_le (s : List UInt8) : ∀ k, hdN s k ≤ k
  | 0 => Nat.le_refl _
  | k + 1 => by have := hdN_le s k; unfold hdN; split <;> omega
theorem hdN_app (q t : List UInt8) (hq : ∀ b ∈ q, ¬ dig8 b) (ht : ∀ b ∈ t, dig8 b) : ∀ k, k ≤ t.length → hdN (q ++ t) (q.length + k) = q.length
  | 0, _ => by
    cases hn : q.length with
    | zero => rfl
    | succ m =>
      show hdN (q ++ t) (m + 1) = m + 1
      have hm : (q ++ t).getD m 0 = q[m]'(by omega) := by
        rw [getD_lt _ _ _ (by simp; omega), List.getElem_append_left (by omega)]
      rw [hdN, hm, if_neg (hq _ (List.getElem_mem _))]
  | k + 1, h => by
    have hm : (q ++ t).getD (q.length + k) 0 = t[k]'(by omega) := by
      rw [getD_lt _ _ _ (by simp; omega), List.getElem_append_right (by omega)]
      simp
    show hdN (q ++ t) (q.length + k + 1) = q.length
    rw [hdN, hm, if_pos (ht _ (List.getElem_mem _))]
    exact hdN_app q t hq ht k (by omega)
theorem rep_mem {c b : UInt8} : ∀ k, b ∈ Go.Lib.repeatL [c] k → b = c
  | 0, h => by simp [Go.Lib.repeatL] at h
  | k + 1, h => by
    rw [show Go.Lib.repeatL [c] (k + 1) = [c] ++ Go.Lib.repeatL [c] k from rfl] at h
    rcases List.mem_append.1 h with h | h
    · simpa using h
    · exact rep_mem k h
theorem qualI_mem {a b : Int} : ∀ x ∈ qualI a b, ¬ dig8 x := by
  intro x hx
  have hk : x = 65 ∨ x = 80 ∨ x = 77 ∨ x = 100 ∨ x = 109 := by
    unfold qualI at hx
    repeat' split at hx
    all_goals first
      | exact .inl (rep_mem _ hx)
      | exact .inr (.inr (.inr (.inl (rep_mem _ hx))))
      | (simp at hx; subst hx; simp)
  rcases hk with rfl | rfl | rfl | rfl | rfl <;> decide
/-- A name: no digits, then the number of the steps. -/
def toldN (s : List UInt8) (n : Int) : Prop := ∃ q, s = q ++ decT (n + 1) ∧ (∀ b ∈ q, ¬ dig8 b) ∧ q.length ≤ 4
theorem qualI_len4 {n d : Int} (hd : -3 ≤ d ∧ d ≤ 3) : (qualI n (natF n + d)).length ≤ 3 := by
  have r := fun s n => Go.Lib.repeatL_length s n
  unfold qualI
  repeat' split
  all_goals first | decide | (rw [r]; simp only [List.length_cons, List.length_nil]; omega)
theorem name_told {n d : Int} (hn : 0 ≤ n ∧ n ≤ 28) (hd : -3 ≤ d ∧ d ≤ 3) : toldN (nameI n (natF n + d)) n ∧ (0 < n → toldN (nameI (-n) (-(natF n + d))) n) := by
  have hl := qualI_len4 (n := n) hd
  refine ⟨⟨qualI n (natF n + d), ?_, qualI_mem, by omega⟩, fun h => ⟨[45] ++ qualI n (natF n + d), ?_, fun b hb => ?_, by simp; omega⟩⟩
  · unfold nameI
    rw [if_neg (by omega)]
  · unfold nameI
    rw [if_pos (by omega), Int.neg_neg, Int.neg_neg, List.append_assoc]
  · rcases List.mem_append.1 hb with h1 | h1
    · rw [List.mem_singleton.1 h1]; decide
    · exact qualI_mem b h1
theorem inI_told (s : List UInt8) (n : Int) (hn : 0 ≤ n ∧ n ≤ 28) : ∀ (k : Nat) (d : Int) (x : Int × Int), -3 ≤ d → d + k ≤ 4 → inI s n k d = some x → toldN s n
  | 0, _, _, _, _, h => by simp [inI] at h
  | k + 1, d, x, h1, h2, h => by
    have ht := name_told hn (d := d) ⟨h1, by omega⟩
    rw [inI] at h
    split at h
    · rename_i y hy
      unfold hitI at hy
      split at hy
      · rename_i e; rw [← e]; exact ht.1
      · split at hy
        · rename_i e; rw [← e.2]; exact ht.2 e.1
        · simp at hy
    · exact inI_told s n hn k (d + 1) x (by omega) (by omega) h
def tailN (s : List UInt8) : List UInt8 := cutL s (hdN s s.length : Int) (s.length : Int)
theorem told_read {s : List UInt8} {n : Int} (hn : 0 ≤ n ∧ n ≤ 28) (h : toldN s n) : readD (tailN s) = (n + 1, true) ∧ s ≠ [] ∧ s.length ≤ 7 := by
  obtain ⟨q, rfl, hq, hl⟩ := h
  have he : decT (n + 1) = Go.Lib.decDigits (n + 1).natAbs := (itoa_cases (n + 1)).elim (fun h => absurd h.1 (by omega)) (fun h => h.2)
  have hdg : ∀ b ∈ decT (n + 1), dig8 b := fun b hb => by
    rw [he] at hb
    have := decD_dig _ b hb
    unfold dig8; omega
  have hlen : (decT (n + 1)).length ≤ 2 := by rw [he]; exact decD_len _ 1 (by omega)
  have h1 := hdN_app q (decT (n + 1)) hq hdg _ (Nat.le_refl _)
  refine ⟨?_, by have := decT_ne (n + 1); simp [this], by simp; omega⟩
  unfold tailN
  rw [List.length_append, h1]
  have : cutL (q ++ decT (n + 1)) (q.length : Int) ((q.length + (decT (n + 1)).length : Nat) : Int) = decT (n + 1) := by
    unfold cutL
    rw [show ((q.length + (decT (n + 1)).length : Nat) : Int).toNat = (q ++ decT (n + 1)).length by simp; omega, List.take_length, show ((q.length : Nat) : Int).toNat = q.length by omega, List.drop_left]
  rw [this]
  exact readD_of ⟨by omega, by omega⟩
theorem outI_some {s : List UInt8} : ∀ (k : Nat) (n : Int) (x : Int × Int), outI s k n = some x → ∃ m, n ≤ m ∧ m < n + k ∧ inI s m 7 (-3) = some x
  | 0, _, _, h => by simp [outI] at h
  | k + 1, n, x, h => by
    rw [outI] at h
    split at h
    · rename_i y hy
      exact ⟨n, by omega, by omega, hy.trans h⟩
    · obtain ⟨m, h1, h2, h3⟩ := outI_some k (n + 1) x h
      exact ⟨m, by omega, by omega, h3⟩
theorem outI_none {s : List UInt8} : ∀ (k : Nat) (n : Int), outI s k n = none → ∀ m, n ≤ m → m < n + k → inI s m 7 (-3) = none
  | 0, n, _, m, h1, h2 => by omega
  | k + 1, n, h, m, h1, h2 => by
    rw [outI] at h
    split at h
    · simp at h
    · rename_i hy
      by_cases e : m = n
      · rw [e]; exact hy
      · exact outI_none k (n + 1) h m (by omega) (by omega)
theorem outI_eq (s : List UInt8) : outI s 29 0 = if (s ≠ [] ∧ s.length ≤ 7) ∧ (readD (tailN s)).2 = true ∧ 1 ≤ (readD (tailN s)).1 ∧ (readD (tailN s)).1 ≤ 29 then inI s ((readD (tailN s)).1 - 1) 7 (-3) else none := by
  cases h : outI s 29 0 with
  | some x =>
    obtain ⟨m, h1, h2, h3⟩ := outI_some 29 0 x h
    have ht := inI_told s m (by omega) 7 (-3) x (by omega) (by omega) h3
    obtain ⟨g1, g2, g3⟩ := told_read (by omega) ht
    rw [g1]
    rw [if_pos ⟨⟨g2, g3⟩, rfl, by simp only; omega, by simp only; omega⟩]
    simp only [Int.add_sub_cancel]
    exact h3.symm
  | none =>
    split
    · rename_i hc
      exact (outI_none 29 0 h _ (by omega) (by omega)).symm
    · rfl
def ann_sReadInterval_0 : LAnn := { sameS := [0, 2], modS := [3, 4], sameH := [2], modH := [], base := 900000, nilE := [], nilB := [], G := fun
  | ⟨[.str s, .ptr 2 0], [.box [.int .i64 p, .int .i64 q]], [.bool r, .int .i64 a], []⟩ => some (.p (0 ≤ a ∧ a ≤ (s.length : Int) ∧ s.length ≤ 7), .leaf (.exit 0) [.bool r, .int .i64 (hdN s a.toNat : Int)] [])
  | _ => none }
def ann_sReadInterval_1 : LAnn := { sameS := [0, 2, 5], modS := [3, 7], sameH := [], modH := [2], base := 950000, nilE := [], nilB := [], G := fun
  | ⟨[.str s, .ptr 2 0, .int .i64 n], [], [.bool r, .int .i64 d], [[.int .i64 a, .int .i64 b]]⟩ => some (.p ((1 ≤ n ∧ n ≤ 29) ∧ -3 ≤ d ∧ d ≤ 4), .ite (inI s (n - 1) (4 - d).toNat d).isSome (.leaf .ret [.bool true, .unk] [[.int .i64 (orZ (inI s (n - 1) (4 - d).toNat d)).1, .int .i64 (orZ (inI s (n - 1) (4 - d).toNat d)).2]]) (.leaf (.exit 2) [.bool r, .unk] [[.int .i64 a, .int .i64 b]]))
  | _ => none }
def ct_sReadInterval : Ct := ctOf [.v .str] (fun _ => .tt) (fun ((s : List UInt8), _) => .tup [.agg (enc tIv (orZ (outI s 29 0))), .bool (outI s 29 0).isSome])
set_option maxHeartbeats 1000000 in
theorem loop_sReadInterval_1 : LoopSat Tryd.prog Tryd.f28.ntmps (loopAt Tryd.f28 1) ann_sReadInterval_1 := by
  refine loopSat_of (C := C_Ue_3) (L := (addL (firstId (loopAt Tryd.f28 1)) ann_sReadInterval_1 (addL (firstId (loopAt Tryd.f28 0)) ann_sReadInterval_0 noL))) (wr := false) mixedOk C_Ue_3_ok (loopsIn0 (by kernel_rfl)) (fun d => match d.vals with | [_, .int _ n] => (4 - n).toNat | _ => 0) fun d p t hG hp => ?_
  simp only [ann_sReadInterval_1] at hG
  split at hG
  rotate_left
  · simp at hG
  rename_i s n r d a b
  simp only [Option.some.injEq, Prod.mk.injEq] at hG
  obtain ⟨rfl, rfl⟩ := hG
  have htree : exRound Tryd.prog C_Ue_3 false (addL (firstId (loopAt Tryd.f28 1)) ann_sReadInterval_1 (addL (firstId (loopAt Tryd.f28 0)) ann_sReadInterval_0 noL)) Tryd.f28.ntmps ann_sReadInterval_1 (loopAt Tryd.f28 1) ⟨[.str s, .ptr 2 0, .int .i64 n], [], [.bool r, .int .i64 d], [[.int .i64 a, .int .i64 b]]⟩ = .ite (decide (d ≤ (3 : Int))) (.need (inK IntKind.i64 (n - (1 : Int))) (.need (inK IntKind.i64 (n - (1 : Int))) (.need ((0 : Int) ≤ n - (1 : Int) ∧ n - (1 : Int) ≤ (1000 : Int)) (.need (inK IntKind.i64 (natF (n - (1 : Int)) + d)) (.need (okI (n - (1 : Int)) (natF (n - (1 : Int)) + d) = true) (.ite (decide (nameI (n - (1 : Int)) (natF (n - (1 : Int)) + d) = s)) (.leaf (.ret, ⟨[.str (s), .ptr 2 0, .int .i64 (n)], [], [.bool (true), .int .i64 (d)], [[.int .i64 (n - (1 : Int)), .int .i64 (natF (n - (1 : Int)) + d)]]⟩)) (.need (inK IntKind.i64 ((0 : Int) - (n - (1 : Int)))) (.need (inK IntKind.i64 ((0 : Int) - (natF (n - (1 : Int)) + d))) (.ite (decide ((0 : Int) - (n - (1 : Int)) < (0 : Int))) (.need (okI ((0 : Int) - (n - (1 : Int))) ((0 : Int) - (natF (n - (1 : Int)) + d)) = true) (.ite (decide (nameI ((0 : Int) - (n - (1 : Int))) ((0 : Int) - (natF (n - (1 : Int)) + d)) = s)) (.leaf (.ret, ⟨[.str (s), .ptr 2 0, .int .i64 (n)], [], [.bool (true), .int .i64 (d)], [[.int .i64 ((0 : Int) - (n - (1 : Int))), .int .i64 ((0 : Int) - (natF (n - (1 : Int)) + d))]]⟩)) (.need (inK IntKind.i64 (d + (1 : Int))) (.leaf (.normal, ⟨[.str (s), .ptr 2 0, .int .i64 (n)], [], [.bool (r), .int .i64 (d + (1 : Int))], [[.int .i64 (a), .int .i64 (b)]]⟩))))) (.need (inK IntKind.i64 (d + (1 : Int))) (.leaf (.normal, ⟨[.str (s), .ptr 2 0, .int .i64 (n)], [], [.bool (r), .int .i64 (d + (1 : Int))], [[.int .i64 (a), .int .i64 (b)]]⟩)))))))))))) (.leaf ((.exit 2), ⟨[.str (s), .ptr 2 0, .int .i64 (n)], [], [.bool (r), .int .i64 (d)], [[.int .i64 (a), .int .i64 (b)]]⟩)) := by kernel_rfl
  rw [htree]
  clear htree
  replace hp : (1 ≤ n ∧ n ≤ 29) ∧ -3 ≤ d ∧ d ≤ 4 := hp
  obtain ⟨hn0, hd⟩ := hp
  simp only [Tree.ok, tyd_inj, packAV, AV.same, AV.same.sameL, encV, encS, enc, inK, Nd.ok, List.headD_cons, List.cons_append, List.nil_append, List.append_nil, true_and, and_true, Bool.true_and, Bool.and_true, loop_next, weakBs_nil, weakBs_cons, weakB_self, weakB_row, weakB_int, weakL_nil, weakL_unk, weakL_guess, isRow_own, isRow_unk, weakL_int, weakL_bool, weakL_str, weakL_own, weakL_view, weakL_nilS, noRow_int, noRow_bool, own_inj, LTree.val, cond_true, cond_false, Prod.mk.injEq, List.cons.injEq, AV.int.injEq, AV.bool.injEq, AV.str.injEq, AV.agg.injEq, ann_sReadInterval_1, decide_eq_true_eq, decide_eq_false_iff_not]
  refine ⟨fun ha => ?_, fun ha => ?_⟩
  · obtain ⟨m, hm⟩ : ∃ m, (4 - d).toNat = m + 1 := ⟨(4 - d).toNat - 1, by omega⟩
    rw [hm, show (4 - (d + 1)).toNat = m by omega, inI]
    obtain ⟨k, rfl⟩ : ∃ k : Int, n = k + 1 := ⟨n - 1, by omega⟩
    have e0 : ∀ z : Int, 0 - z = -z := fun z => by omega
    simp only [Int.add_sub_cancel, e0]
    have hn : 0 ≤ k ∧ k ≤ 28 := by omega
    have hb := natF_bd k (by omega) (by omega)
    have hk : okI k (natF k + d) = true := okI_near hn ⟨hd.1, ha⟩
    have hk2 := okI_neg hk
    have hb2 : natF k ≤ 48 := natF_28 hn
    simp only [hk, hk2, if_true, hitI]
    by_cases h1 : nameI k (natF k + d) = s
    · simp only [h1, if_true, orZ, Option.isSome_some, not_true_eq_false, false_implies, true_implies]
      repeat' first | apply And.intro | intro _
      all_goals first | omega | trivial | rfl | contradiction | (simp [Tree.ok, tyd_inj, packAV, AV.same, AV.same.sameL, encV, encS, enc, inK, Nd.ok, List.headD_cons, List.cons_append, List.nil_append, List.append_nil, true_and, and_true, Bool.true_and, Bool.and_true, loop_next, weakBs_nil, weakBs_cons, weakB_self, weakB_row, weakB_int, weakL_nil, weakL_unk, weakL_guess, isRow_own, isRow_unk, weakL_int, weakL_bool, weakL_str, weakL_own, weakL_view, weakL_nilS, noRow_int, noRow_bool, own_inj, LTree.val, cond_true, cond_false, Prod.mk.injEq, List.cons.injEq, AV.int.injEq, AV.bool.injEq, AV.str.injEq, AV.agg.injEq]; done) | (simp_all [Tree.ok, tyd_inj, packAV, AV.same, AV.same.sameL, encV, encS, enc, inK, Nd.ok, List.headD_cons, List.cons_append, List.nil_append, List.append_nil, true_and, and_true, Bool.true_and, Bool.and_true, loop_next, weakBs_nil, weakBs_cons, weakB_self, weakB_row, weakB_int, weakL_nil, weakL_unk, weakL_guess, isRow_own, isRow_unk, weakL_int, weakL_bool, weakL_str, weakL_own, weakL_view, weakL_nilS, noRow_int, noRow_bool, own_inj, LTree.val, cond_true, cond_false, Prod.mk.injEq, List.cons.injEq, AV.int.injEq, AV.bool.injEq, AV.str.injEq, AV.agg.injEq]; done) | (trace_state; fail)
    · by_cases h2 : 0 < k
      · have h2' : -k < 0 := by omega
        by_cases h3 : nameI (-k) (-(natF k + d)) = s
        · simp only [h1, h2, h2', h3, if_true, if_false, true_and, orZ, Option.isSome_some, not_true_eq_false, not_false_eq_true, false_implies, true_implies]
          repeat' first | apply And.intro | intro _
          all_goals first | omega | trivial | rfl | contradiction | (simp [Tree.ok, tyd_inj, packAV, AV.same, AV.same.sameL, encV, encS, enc, inK, Nd.ok, List.headD_cons, List.cons_append, List.nil_append, List.append_nil, true_and, and_true, Bool.true_and, Bool.and_true, loop_next, weakBs_nil, weakBs_cons, weakB_self, weakB_row, weakB_int, weakL_nil, weakL_unk, weakL_guess, isRow_own, isRow_unk, weakL_int, weakL_bool, weakL_str, weakL_own, weakL_view, weakL_nilS, noRow_int, noRow_bool, own_inj, LTree.val, cond_true, cond_false, Prod.mk.injEq, List.cons.injEq, AV.int.injEq, AV.bool.injEq, AV.str.injEq, AV.agg.injEq]; done) | (simp_all [Tree.ok, tyd_inj, packAV, AV.same, AV.same.sameL, encV, encS, enc, inK, Nd.ok, List.headD_cons, List.cons_append, List.nil_append, List.append_nil, true_and, and_true, Bool.true_and, Bool.and_true, loop_next, weakBs_nil, weakBs_cons, weakB_self, weakB_row, weakB_int, weakL_nil, weakL_unk, weakL_guess, isRow_own, isRow_unk, weakL_int, weakL_bool, weakL_str, weakL_own, weakL_view, weakL_nilS, noRow_int, noRow_bool, own_inj, LTree.val, cond_true, cond_false, Prod.mk.injEq, List.cons.injEq, AV.int.injEq, AV.bool.injEq, AV.str.injEq, AV.agg.injEq]; done) | (trace_state; fail)
        · simp only [h1, h2, h2', h3, if_true, if_false, true_and, not_true_eq_false, not_false_eq_true, false_implies, true_implies, and_false]
          repeat' first | apply And.intro | intro _
          all_goals first | omega | trivial | rfl | contradiction | (simp [Tree.ok, tyd_inj, packAV, AV.same, AV.same.sameL, encV, encS, enc, inK, Nd.ok, List.headD_cons, List.cons_append, List.nil_append, List.append_nil, true_and, and_true, Bool.true_and, Bool.and_true, loop_next, weakBs_nil, weakBs_cons, weakB_self, weakB_row, weakB_int, weakL_nil, weakL_unk, weakL_guess, isRow_own, isRow_unk, weakL_int, weakL_bool, weakL_str, weakL_own, weakL_view, weakL_nilS, noRow_int, noRow_bool, own_inj, LTree.val, cond_true, cond_false, Prod.mk.injEq, List.cons.injEq, AV.int.injEq, AV.bool.injEq, AV.str.injEq, AV.agg.injEq]; done) | (simp_all [Tree.ok, tyd_inj, packAV, AV.same, AV.same.sameL, encV, encS, enc, inK, Nd.ok, List.headD_cons, List.cons_append, List.nil_append, List.append_nil, true_and, and_true, Bool.true_and, Bool.and_true, loop_next, weakBs_nil, weakBs_cons, weakB_self, weakB_row, weakB_int, weakL_nil, weakL_unk, weakL_guess, isRow_own, isRow_unk, weakL_int, weakL_bool, weakL_str, weakL_own, weakL_view, weakL_nilS, noRow_int, noRow_bool, own_inj, LTree.val, cond_true, cond_false, Prod.mk.injEq, List.cons.injEq, AV.int.injEq, AV.bool.injEq, AV.str.injEq, AV.agg.injEq]; done) | (trace_state; fail)
      · have h2' : ¬ -k < 0 := by omega
        simp only [h1, h2, h2', if_true, if_false, false_and, not_true_eq_false, not_false_eq_true, false_implies, true_implies]
        repeat' first | apply And.intro | intro _
        all_goals first | omega | trivial | rfl | contradiction | (simp [Tree.ok, tyd_inj, packAV, AV.same, AV.same.sameL, encV, encS, enc, inK, Nd.ok, List.headD_cons, List.cons_append, List.nil_append, List.append_nil, true_and, and_true, Bool.true_and, Bool.and_true, loop_next, weakBs_nil, weakBs_cons, weakB_self, weakB_row, weakB_int, weakL_nil, weakL_unk, weakL_guess, isRow_own, isRow_unk, weakL_int, weakL_bool, weakL_str, weakL_own, weakL_view, weakL_nilS, noRow_int, noRow_bool, own_inj, LTree.val, cond_true, cond_false, Prod.mk.injEq, List.cons.injEq, AV.int.injEq, AV.bool.injEq, AV.str.injEq, AV.agg.injEq]; done) | (simp_all [Tree.ok, tyd_inj, packAV, AV.same, AV.same.sameL, encV, encS, enc, inK, Nd.ok, List.headD_cons, List.cons_append, List.nil_append, List.append_nil, true_and, and_true, Bool.true_and, Bool.and_true, loop_next, weakBs_nil, weakBs_cons, weakB_self, weakB_row, weakB_int, weakL_nil, weakL_unk, weakL_guess, isRow_own, isRow_unk, weakL_int, weakL_bool, weakL_str, weakL_own, weakL_view, weakL_nilS, noRow_int, noRow_bool, own_inj, LTree.val, cond_true, cond_false, Prod.mk.injEq, List.cons.injEq, AV.int.injEq, AV.bool.injEq, AV.str.injEq, AV.agg.injEq]; done) | (trace_state; fail)
  · rw [show (4 - d).toNat = 0 by omega]
    simp [Tree.ok, tyd_inj, packAV, AV.same, AV.same.sameL, encV, encS, enc, inK, Nd.ok, List.headD_cons, List.cons_append, List.nil_append, List.append_nil, true_and, and_true, Bool.true_and, Bool.and_true, loop_next, weakBs_nil, weakBs_cons, weakB_self, weakB_row, weakB_int, weakL_nil, weakL_unk, weakL_guess, isRow_own, isRow_unk, weakL_int, weakL_bool, weakL_str, weakL_own, weakL_view, weakL_nilS, noRow_int, noRow_bool, own_inj, LTree.val, cond_true, cond_false, Prod.mk.injEq, List.cons.injEq, AV.int.injEq, AV.bool.injEq, AV.str.injEq, AV.agg.injEq, inI]
set_option maxHeartbeats 1000000 in
theorem loop_sReadInterval_0 : LoopSat Tryd.prog Tryd.f28.ntmps (loopAt Tryd.f28 0) ann_sReadInterval_0 := by
  refine loopSat_of (C := C_Ue_3) (L := (addL (firstId (loopAt Tryd.f28 1)) ann_sReadInterval_1 (addL (firstId (loopAt Tryd.f28 0)) ann_sReadInterval_0 noL))) (wr := false) mixedOk C_Ue_3_ok (loopsIn0 (by kernel_rfl)) (fun d => match d.vals with | [_, .int _ a] => a.toNat | _ => 0) fun d p t hG hp => ?_
  simp only [ann_sReadInterval_0] at hG
  split at hG
  rotate_left
  · simp at hG
  rename_i s p q r a
  simp only [Option.some.injEq, Prod.mk.injEq] at hG
  obtain ⟨rfl, rfl⟩ := hG
  have htree : exRound Tryd.prog C_Ue_3 false (addL (firstId (loopAt Tryd.f28 1)) ann_sReadInterval_1 (addL (firstId (loopAt Tryd.f28 0)) ann_sReadInterval_0 noL)) Tryd.f28.ntmps ann_sReadInterval_0 (loopAt Tryd.f28 0) ⟨[.str s, .ptr 2 0], [.box [.int .i64 p, .int .i64 q]], [.bool r, .int .i64 a], []⟩ = .ite (decide ((0 : Int) < a)) (.need (inK IntKind.i64 (a - (1 : Int))) (.need ((0 : Int) ≤ a - (1 : Int) ∧ a - (1 : Int) < (↑s.length : Int)) (.ite (decide ((48 : Int) ≤ (↑(s.getD (a - (1 : Int)).toNat (0 : UInt8)).toNat : Int)) && decide ((↑(s.getD (a - (1 : Int)).toNat (0 : UInt8)).toNat : Int) ≤ (57 : Int))) (.need (inK IntKind.i64 (a - (1 : Int))) (.leaf (.normal, ⟨[.str (s), .ptr 2 0], [.box [.int .i64 (p), .int .i64 (q)]], [.bool (r), .int .i64 (a - (1 : Int))], []⟩))) (.leaf ((.exit 0), ⟨[.str (s), .ptr 2 0], [.box [.int .i64 (p), .int .i64 (q)]], [.bool (r), .int .i64 (a)], []⟩))))) (.leaf ((.exit 0), ⟨[.str (s), .ptr 2 0], [.box [.int .i64 (p), .int .i64 (q)]], [.bool (r), .int .i64 (a)], []⟩)) := by kernel_rfl
  rw [htree]
  clear htree
  replace hp : 0 ≤ a ∧ a ≤ (s.length : Int) ∧ s.length ≤ 7 := hp
  obtain ⟨h0, h1, h2⟩ := hp
  simp only [Tree.ok, tyd_inj, packAV, AV.same, AV.same.sameL, encV, encS, enc, inK, Nd.ok, List.headD_cons, List.cons_append, List.nil_append, List.append_nil, true_and, and_true, Bool.true_and, Bool.and_true, loop_next, weakBs_nil, weakBs_cons, weakB_self, weakB_row, weakB_int, weakL_nil, weakL_unk, weakL_guess, isRow_own, isRow_unk, weakL_int, weakL_bool, weakL_str, weakL_own, weakL_view, weakL_nilS, noRow_int, noRow_bool, own_inj, LTree.val, cond_true, cond_false, Prod.mk.injEq, List.cons.injEq, AV.int.injEq, AV.bool.injEq, AV.str.injEq, AV.agg.injEq, ann_sReadInterval_0, decide_eq_true_eq, decide_eq_false_iff_not]
  refine ⟨fun ha => ?_, fun ha => ?_⟩
  · obtain ⟨m, hm⟩ : ∃ m, a.toNat = m + 1 := ⟨a.toNat - 1, by omega⟩
    rw [hm, show (a - 1).toNat = m by omega, hdN]
    by_cases hd : dig8 (s.getD m 0)
    · have hd' := hd
      unfold dig8 at hd'
      simp only [hd, hd', if_true, decide_true, Bool.and_self, true_implies, Bool.true_eq_false, false_implies]
      repeat' first | apply And.intro | intro _
      all_goals first | omega | trivial | rfl | contradiction | (simp [Tree.ok, tyd_inj, packAV, AV.same, AV.same.sameL, encV, encS, enc, inK, Nd.ok, List.headD_cons, List.cons_append, List.nil_append, List.append_nil, true_and, and_true, Bool.true_and, Bool.and_true, loop_next, weakBs_nil, weakBs_cons, weakB_self, weakB_row, weakB_int, weakL_nil, weakL_unk, weakL_guess, isRow_own, isRow_unk, weakL_int, weakL_bool, weakL_str, weakL_own, weakL_view, weakL_nilS, noRow_int, noRow_bool, own_inj, LTree.val, cond_true, cond_false, Prod.mk.injEq, List.cons.injEq, AV.int.injEq, AV.bool.injEq, AV.str.injEq, AV.agg.injEq]; done) | (simp_all [Tree.ok, tyd_inj, packAV, AV.same, AV.same.sameL, encV, encS, enc, inK, Nd.ok, List.headD_cons, List.cons_append, List.nil_append, List.append_nil, true_and, and_true, Bool.true_and, Bool.and_true, loop_next, weakBs_nil, weakBs_cons, weakB_self, weakB_row, weakB_int, weakL_nil, weakL_unk, weakL_guess, isRow_own, isRow_unk, weakL_int, weakL_bool, weakL_str, weakL_own, weakL_view, weakL_nilS, noRow_int, noRow_bool, own_inj, LTree.val, cond_true, cond_false, Prod.mk.injEq, List.cons.injEq, AV.int.injEq, AV.bool.injEq, AV.str.injEq, AV.agg.injEq]; done) | (trace_state; fail)
    · have hd' := hd
      unfold dig8 at hd'
      have hd2 : (decide (48 ≤ ((s.getD m 0).toNat : Int)) && decide (((s.getD m 0).toNat : Int) ≤ 57)) = false := by
        rw [← Bool.not_eq_true, Bool.and_eq_true, decide_eq_true_eq, decide_eq_true_eq]; exact hd'
      simp only [hd, hd2, if_false, true_implies, Bool.false_eq_true, false_implies]
      repeat' first | apply And.intro | intro _
      all_goals first | omega | trivial | rfl | contradiction | (simp [Tree.ok, tyd_inj, packAV, AV.same, AV.same.sameL, encV, encS, enc, inK, Nd.ok, List.headD_cons, List.cons_append, List.nil_append, List.append_nil, true_and, and_true, Bool.true_and, Bool.and_true, loop_next, weakBs_nil, weakBs_cons, weakB_self, weakB_row, weakB_int, weakL_nil, weakL_unk, weakL_guess, isRow_own, isRow_unk, weakL_int, weakL_bool, weakL_str, weakL_own, weakL_view, weakL_nilS, noRow_int, noRow_bool, own_inj, LTree.val, cond_true, cond_false, Prod.mk.injEq, List.cons.injEq, AV.int.injEq, AV.bool.injEq, AV.str.injEq, AV.agg.injEq]; omega) | (simp_all [Tree.ok, tyd_inj, packAV, AV.same, AV.same.sameL, encV, encS, enc, inK, Nd.ok, List.headD_cons, List.cons_append, List.nil_append, List.append_nil, true_and, and_true, Bool.true_and, Bool.and_true, loop_next, weakBs_nil, weakBs_cons, weakB_self, weakB_row, weakB_int, weakL_nil, weakL_unk, weakL_guess, isRow_own, isRow_unk, weakL_int, weakL_bool, weakL_str, weakL_own, weakL_view, weakL_nilS, noRow_int, noRow_bool, own_inj, LTree.val, cond_true, cond_false, Prod.mk.injEq, List.cons.injEq, AV.int.injEq, AV.bool.injEq, AV.str.injEq, AV.agg.injEq]; done) | (trace_state; fail)
  · rw [show a.toNat = 0 by omega]
    simp [Tree.ok, tyd_inj, packAV, AV.same, AV.same.sameL, encV, encS, enc, inK, Nd.ok, List.headD_cons, List.cons_append, List.nil_append, List.append_nil, true_and, and_true, Bool.true_and, Bool.and_true, loop_next, weakBs_nil, weakBs_cons, weakB_self, weakB_row, weakB_int, weakL_nil, weakL_unk, weakL_guess, isRow_own, isRow_unk, weakL_int, weakL_bool, weakL_str, weakL_own, weakL_view, weakL_nilS, noRow_int, noRow_bool, own_inj, LTree.val, cond_true, cond_false, Prod.mk.injEq, List.cons.injEq, AV.int.injEq, AV.bool.injEq, AV.str.injEq, AV.agg.injEq, hdN]
    try omega
theorem loops_sReadInterval : ∀ c, Tryd.f28.body = some c → LoopsOk Tryd.prog (addL (firstId (loopAt Tryd.f28 1)) ann_sReadInterval_1 (addL (firstId (loopAt Tryd.f28 0)) ann_sReadInterval_0 noL)) Tryd.f28.ntmps c := loopsN fun i hi ann h => by
  have hn : loopN Tryd.f28 = 2 := by kernel_rfl
  rw [hn] at hi
  exact match i, hi, h with
    | 0, _, h => (Option.some.inj ((show (addL (firstId (loopAt Tryd.f28 1)) ann_sReadInterval_1 (addL (firstId (loopAt Tryd.f28 0)) ann_sReadInterval_0 noL)) (firstId (loopAt Tryd.f28 0)) = some ann_sReadInterval_0 from by kernel_rfl).symm.trans h)) ▸ loop_sReadInterval_0
    | 1, _, h => (Option.some.inj ((show (addL (firstId (loopAt Tryd.f28 1)) ann_sReadInterval_1 (addL (firstId (loopAt Tryd.f28 0)) ann_sReadInterval_0 noL)) (firstId (loopAt Tryd.f28 1)) = some ann_sReadInterval_1 from by kernel_rfl).symm.trans h)) ▸ loop_sReadInterval_1
set_option maxHeartbeats 1000000 in
theorem sat_sReadInterval : Sat Tryd.prog 28 ct_sReadInterval := by
  refine sat_typed (C := C_Ue_3) (L := (addL (firstId (loopAt Tryd.f28 1)) ann_sReadInterval_1 (addL (firstId (loopAt Tryd.f28 0)) ann_sReadInterval_0 noL))) (wr := false) mixedOk Tryd.func28 C_Ue_3_ok (loops_sReadInterval) (fun _ => by first | rfl | (simp [ownsOf, ownsOf.ownsL, enc, encV, encS])) fun x hp => ?_
  obtain ⟨(s : List UInt8), _⟩ := x
  clear hp
  have htree : exFunc Tryd.prog C_Ue_3 false (addL (firstId (loopAt Tryd.f28 1)) ann_sReadInterval_1 (addL (firstId (loopAt Tryd.f28 0)) ann_sReadInterval_0 noL)) Tryd.f28 (encA [.v .str] (s, ())) = .ite (decide (s = ([] : List UInt8))) (.leaf [.agg [.int .i64 ((0 : Int)), .int .i64 ((0 : Int))], .lit false]) (.ite (decide ((7 : Int) < (↑s.length : Int))) (.leaf [.agg [.int .i64 ((0 : Int)), .int .i64 ((0 : Int))], .lit false]) (.need ((0 : Int) ≤ (↑s.length : Int) ∧ (↑s.length : Int) ≤ (↑s.length : Int) ∧ s.length ≤ (7 : Nat)) (.need ((0 : Int) ≤ (↑(hdN s (↑s.length : Int).toNat) : Int) ∧ (↑(hdN s (↑s.length : Int).toNat) : Int) ≤ (↑s.length : Int)) (.ite (!(readD (cutL s (↑(hdN s (↑s.length : Int).toNat) : Int) (↑s.length : Int))).snd) (.leaf [.agg [.int .i64 ((0 : Int)), .int .i64 ((0 : Int))], .lit false]) (.ite (!inB (readD (cutL s (↑(hdN s (↑s.length : Int).toNat) : Int) (↑s.length : Int))).fst (1 : Int) (29 : Int)) (.leaf [.agg [.int .i64 ((0 : Int)), .int .i64 ((0 : Int))], .lit false]) (.need (((1 : Int) ≤ (readD (cutL s (↑(hdN s (↑s.length : Int).toNat) : Int) (↑s.length : Int))).fst ∧ (readD (cutL s (↑(hdN s (↑s.length : Int).toNat) : Int) (↑s.length : Int))).fst ≤ (29 : Int)) ∧ (-3 : Int) ≤ (-3 : Int) ∧ (-3 : Int) ≤ (4 : Int)) (.ite ((inI s ((readD (cutL s (↑(hdN s (↑s.length : Int).toNat) : Int) (↑s.length : Int))).fst - (1 : Int)) ((4 : Int) - (-3 : Int)).toNat (-3 : Int)).isSome) (.leaf [.agg [.int .i64 ((orZ (inI s ((readD (cutL s (↑(hdN s (↑s.length : Int).toNat) : Int) (↑s.length : Int))).fst - (1 : Int)) ((4 : Int) - (-3 : Int)).toNat (-3 : Int))).fst), .int .i64 ((orZ (inI s ((readD (cutL s (↑(hdN s (↑s.length : Int).toNat) : Int) (↑s.length : Int))).fst - (1 : Int)) ((4 : Int) - (-3 : Int)).toNat (-3 : Int))).snd)], .bool (true)]) (.leaf [.agg [.int .i64 ((0 : Int)), .int .i64 ((0 : Int))], .lit false])))))))) := by kernel_rfl
  refine (congrArg (Tree.ok _) htree).mpr ?_
  clear htree
  have hE := outI_eq s
  have e1 : cutL s (hdN s s.length : Int) (s.length : Int) = tailN s := rfl
  have e2 : ((4 : Int) - (-3)).toNat = 7 := by decide
  have hle := hdN_le s s.length
  have e3 : ((s.length : Int)).toNat = s.length := by omega
  simp only [Tree.ok, tyd_inj, packAV, AV.same, AV.same.sameL, encV, encS, enc, inK, Nd.ok, List.headD_cons, List.cons_append, List.nil_append, List.append_nil, true_and, and_true, Bool.true_and, Bool.and_true, e1, e2, e3, inB_iff, inB_no, Bool.not_eq_true', Bool.not_eq_false', decide_eq_true_eq, decide_eq_false_iff_not, hE]
  clear hE e1
  generalize tailN s = t at *
  have hb := readD_bd t
  generalize readD t = q at *
  obtain ⟨n, b⟩ := q
  simp only at hb ⊢
  by_cases h0 : s = []
  · simp [h0, orZ, Tree.ok, tyd_inj, packAV, AV.same, AV.same.sameL, encV, encS, enc, inK, Nd.ok, List.headD_cons, List.cons_append, List.nil_append, List.append_nil, true_and, and_true, Bool.true_and, Bool.and_true]
  by_cases h7 : s.length ≤ 7
  · cases b
    · simp only [h0, Bool.false_eq_true, false_and, and_false, if_false, orZ]
      repeat' first | apply And.intro | intro _
      all_goals first | omega | trivial | rfl | contradiction | (simp [Tree.ok, tyd_inj, packAV, AV.same, AV.same.sameL, encV, encS, enc, inK, Nd.ok, List.headD_cons, List.cons_append, List.nil_append, List.append_nil, true_and, and_true, Bool.true_and, Bool.and_true]; done) | (simp_all [Tree.ok, tyd_inj, packAV, AV.same, AV.same.sameL, encV, encS, enc, inK, Nd.ok, List.headD_cons, List.cons_append, List.nil_append, List.append_nil, true_and, and_true, Bool.true_and, Bool.and_true]; done) | (trace_state; fail)
    · by_cases hr : 1 ≤ n ∧ n ≤ 29
      · simp only [h0, h7, hr, ne_eq, not_false_eq_true, and_self, if_true]
        cases h : inI s (n - 1) 7 (-3) with
        | some x =>
          simp only [orZ, Option.isSome_some]
          repeat' first | apply And.intro | intro _
          all_goals first | omega | trivial | rfl | contradiction | (simp [Tree.ok, tyd_inj, packAV, AV.same, AV.same.sameL, encV, encS, enc, inK, Nd.ok, List.headD_cons, List.cons_append, List.nil_append, List.append_nil, true_and, and_true, Bool.true_and, Bool.and_true]; done) | (simp_all [Tree.ok, tyd_inj, packAV, AV.same, AV.same.sameL, encV, encS, enc, inK, Nd.ok, List.headD_cons, List.cons_append, List.nil_append, List.append_nil, true_and, and_true, Bool.true_and, Bool.and_true]; done) | (trace_state; fail)
        | none =>
          simp only [orZ, Option.isSome_none]
          repeat' first | apply And.intro | intro _
          all_goals first | omega | trivial | rfl | contradiction | (simp [Tree.ok, tyd_inj, packAV, AV.same, AV.same.sameL, encV, encS, enc, inK, Nd.ok, List.headD_cons, List.cons_append, List.nil_append, List.append_nil, true_and, and_true, Bool.true_and, Bool.and_true]; done) | (simp_all [Tree.ok, tyd_inj, packAV, AV.same, AV.same.sameL, encV, encS, enc, inK, Nd.ok, List.headD_cons, List.cons_append, List.nil_append, List.append_nil, true_and, and_true, Bool.true_and, Bool.and_true]; done) | (trace_state; fail)
      · rw [if_neg (fun h => hr ⟨h.2.2.1, h.2.2.2⟩)]
        simp only [orZ, Option.isSome_none]
        repeat' first | apply And.intro | intro _
        all_goals first | omega | trivial | rfl | contradiction | (simp [Tree.ok, tyd_inj, packAV, AV.same, AV.same.sameL, encV, encS, enc, inK, Nd.ok, List.headD_cons, List.cons_append, List.nil_append, List.append_nil, true_and, and_true, Bool.true_and, Bool.and_true]; done) | (simp_all [Tree.ok, tyd_inj, packAV, AV.same, AV.same.sameL, encV, encS, enc, inK, Nd.ok, List.headD_cons, List.cons_append, List.nil_append, List.append_nil, true_and, and_true, Bool.true_and, Bool.and_true]; done) | (trace_state; fail)
  · rw [if_neg (fun h => h7 h.1.2)]
    simp only [orZ, Option.isSome_none]
    repeat' first | apply And.intro | intro _
    all_goals first | omega | trivial | rfl | contradiction | (simp [Tree.ok, tyd_inj, packAV, AV.same, AV.same.sameL, encV, encS, enc, inK, Nd.ok, List.headD_cons, List.cons_append, List.nil_append, List.append_nil, true_and, and_true, Bool.true_and, Bool.and_true]; done) | (simp_all [Tree.ok, tyd_inj, packAV, AV.same, AV.same.sameL, encV, encS, enc, inK, Nd.ok, List.headD_cons, List.cons_append, List.nil_append, List.append_nil, true_and, and_true, Bool.true_and, Bool.and_true]; done) | (trace_state; fail)
def C_Ue_4 : FuncId → Option Ct := addC 28 ct_sReadInterval C_Ue_3
theorem C_Ue_4_ok : COk Tryd.prog C_Ue_4 := addC_ok C_Ue_3_ok sat_sReadInterval
def ct_eqInterval : Ct := ctOf [.s tIv, .s tIv] (fun _ => .tt) (fun (((a : Int), (b : Int)), ((c : Int), (d : Int)), _) => .bool (decide (a = c ∧ b = d)))
set_option maxHeartbeats 1000000 in
theorem sat_eqInterval : Sat Tryd.prog 30 ct_eqInterval := by
  refine sat_typed (C := C_Ue_4) (L := noL) (wr := false) mixedOk Tryd.func30 C_Ue_4_ok (loops0 (by kernel_rfl)) (fun _ => by first | rfl | (simp [ownsOf, ownsOf.ownsL, enc, encV, encS])) fun x hp => ?_
  obtain ⟨⟨(a : Int), (b : Int)⟩, ⟨(c : Int), (d : Int)⟩, _⟩ := x
  clear hp
  have htree : exFunc Tryd.prog C_Ue_4 false noL Tryd.f30 (encA [.s tIv, .s tIv] ((a, b), (c, d), ())) = .ite (a != c) (.leaf [.lit false]) (.ite (b != d) (.leaf [.lit false]) (.leaf [.lit true])) := by kernel_rfl
  refine (congrArg (Tree.ok _) htree).mpr ?_
  clear htree
  simp only [Tree.ok, tyd_inj, packAV, AV.same, AV.same.sameL, encV, encS, enc, inK, Nd.ok, List.headD_cons, List.cons_append, List.nil_append, List.append_nil, true_and, and_true, Bool.true_and, Bool.and_true]
  grind
def C_Ue_5 : FuncId → Option Ct := addC 30 ct_eqInterval C_Ue_4
theorem C_Ue_5_ok : COk Tryd.prog C_Ue_5 := addC_ok C_Ue_4_ok sat_eqInterval
def ct_lawReadInterval : Ct := ctOf [.v .str] (fun _ => .tt) (fun ((s : List UInt8), _) => .bool true)
set_option maxHeartbeats 1000000 in
theorem sat_lawReadInterval : Sat Tryd.prog 7 ct_lawReadInterval := by
  refine sat_typed (C := C_Ue_5) (L := noL) (wr := false) mixedOk Tryd.func7 C_Ue_5_ok (loops0 (by kernel_rfl)) (fun _ => by first | rfl | (simp [ownsOf, ownsOf.ownsL, enc, encV, encS])) fun x hp => ?_
  obtain ⟨(s : List UInt8), _⟩ := x
  clear hp
  have htree : exFunc Tryd.prog C_Ue_5 false noL Tryd.f7 (encA [.v .str] (s, ())) = .ite (decide ((1048576 : Int) < (↑s.length : Int))) (.leaf [.lit true]) (.ite (!decide ((orZ (outI s (29 : Nat) (0 : Int))).fst = (orZ (outI s (29 : Nat) (0 : Int))).fst ∧ (orZ (outI s (29 : Nat) (0 : Int))).snd = (orZ (outI s (29 : Nat) (0 : Int))).snd)) (.leaf [.lit false]) (.ite (!(outI s (29 : Nat) (0 : Int)).isSome == (outI s (29 : Nat) (0 : Int)).isSome) (.leaf [.lit false]) (.leaf [.lit true]))) := by kernel_rfl
  refine (congrArg (Tree.ok _) htree).mpr ?_
  clear htree
  simp only [Tree.ok, tyd_inj, packAV, AV.same, AV.same.sameL, encV, encS, enc, inK, Nd.ok, List.headD_cons, List.cons_append, List.nil_append, List.append_nil, true_and, and_true, Bool.true_and, Bool.and_true]
  repeat' first | apply And.intro | intro _
  all_goals first | omega | trivial | rfl | contradiction | assumption | (simp_all; done) | grind
def C_Ue_6 : FuncId → Option Ct := addC 7 ct_lawReadInterval C_Ue_5
theorem C_Ue_6_ok : COk Tryd.prog C_Ue_6 := addC_ok C_Ue_5_ok sat_lawReadInterval

def C_Ue : FuncId → Option Ct := C_Ue_6
theorem C_Ue_ok : COk Tryd.prog C_Ue := C_Ue_6_ok
end Go.Proofs.YtkeckmdmmbeaiaaDoor
