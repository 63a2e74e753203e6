/- Contracts: tunings read from their texts, by the program and the reference; the law on that. Conditions: as each says. -/
import Derived.Test.YtkeckmdmmbeaiaaDoorRf
import Derived.Test.YtkeckmdmmbeaiaaDoorUw
import Derived.Test.YtkeckmdmmbeaiaaDoorFl
set_option linter.unusedSimpArgs false
set_option linter.unusedVariables false
namespace Go.Proofs.YtkeckmdmmbeaiaaDoor
open Go.RowKit Sx
set_option maxRecDepth 100000
set_option maxHeartbeats 1000000
def C_RrB : FuncId → Option Ct := addC 94 ct_iReadFrac (addC 93 ct_sReadFrac (addC 87 ct_SplitWords (addC 84 ct_l01Split (addC 21 ct_iTuningText C_Fl))))
theorem C_RrB_ok : COk Tryd.prog C_RrB := addC_ok (addC_ok (addC_ok (addC_ok (addC_ok C_Fl_ok sat_iTuningText) sat_l01Split) sat_SplitWords) sat_sReadFrac) sat_iReadFrac
def ann_iReadTuning_0 : LAnn := { sameS := [0, 2, 12, 13], modS := [3, 4, 14], sameH := [12], modH := [2], base := 900000, nilE := [], nilB := [], G := fun
  | ⟨[.str s, .ptr 2 0, .row 12, .int .i64 n], [.row .str ws], [.bool r, .own (.pair (.int .i64) (.int .i64)) out, .int .i64 i], [[.int .i64 z1, .int .i64 z2, .int .i64 z3, .int .i64 z4, .nilS]]⟩ => some (.p (n = (ws.length : Int) ∧ (0 ≤ i ∧ i ≤ n) ∧ n ≤ 2000000 ∧ (out.length : Int) ≤ i ∧ (∀ w ∈ ws, w.length ≤ 2000000)), .ite (allM frO (ws.drop i.toNat)).isSome (.leaf (.exit 0) [.bool r, .own tFrac (out ++ preM frO (ws.drop i.toNat)), .unk] [[.int .i64 z1, .int .i64 z2, .int .i64 z3, .int .i64 z4, .nilS]]) (.leaf .ret [.bool false, .own tFrac (out ++ preM frO (ws.drop i.toNat)), .unk] [[.int .i64 0, .int .i64 0, .int .i64 0, .int .i64 0, .nilS]]))
  | _ => none }
def ct_iReadTuning : Ct := ctOf [.v .str] (fun ((s : List UInt8), _) => .p (s.length ≤ 1048576)) (fun ((s : List UInt8), _) => .tup [.agg [.int .i64 (tnI s).1.1.1, .int .i64 (tnI s).1.1.2, .int .i64 (tnI s).1.2.1.1, .int .i64 (tnI s).1.2.1.2, .own tFrac (tnI s).1.2.2], .bool (tnI s).2])
set_option maxHeartbeats 1000000 in
theorem loop_iReadTuning_0 : LoopSat Tryd.prog Tryd.f40.ntmps (loopAt Tryd.f40 0) ann_iReadTuning_0 := by
  refine loopSat_of (C := C_RrB) (L := (addL (firstId (loopAt Tryd.f40 0)) ann_iReadTuning_0 noL)) (wr := false) mixedOk C_RrB_ok (loopsIn0 (by kernel_rfl)) (fun d => match d.same, d.vals with | [_, _, _, .int _ n], [_, _, .int _ i] => (n - i).toNat | _, _ => 0) fun d p t hG hp => ?_
  simp only [ann_iReadTuning_0] at hG
  split at hG
  rotate_left
  · simp at hG
  rename_i s n ws r out i z1 z2 z3 z4
  simp only [Option.some.injEq, Prod.mk.injEq] at hG
  obtain ⟨rfl, rfl⟩ := hG
  have htree : exRound Tryd.prog C_RrB false (addL (firstId (loopAt Tryd.f40 0)) ann_iReadTuning_0 noL) Tryd.f40.ntmps ann_iReadTuning_0 (loopAt Tryd.f40 0) ⟨[.str s, .ptr 2 0, .row 12, .int .i64 n], [.row .str ws], [.bool r, .own tFrac out, .int .i64 i], [[.int .i64 z1, .int .i64 z2, .int .i64 z3, .int .i64 z4, .nilS]]⟩ = .ite (decide (i < n)) (.need ((0 : Int) ≤ i ∧ i < (↑ws.length : Int)) (.need (i.toNat < ws.length) (.need (List.length (ws.getD i.toNat Ty.str.zero) ≤ (2000000 : Nat)) (.ite (!(frI (ws.getD i.toNat Ty.str.zero)).snd) (.leaf (.ret, ⟨[.str (s), .ptr 2 0, .row 12, .int .i64 (n)], [.row (Ty.str) (ws)], [.bool (false), .own (I64.pair I64) (out), .int .i64 (i)], [[.int .i64 ((0 : Int)), .int .i64 ((0 : Int)), .int .i64 ((0 : Int)), .int .i64 ((0 : Int)), .nilS]]⟩)) (.need (out.length + [((frI (ws.getD i.toNat Ty.str.zero)).fst.fst, (frI (ws.getD i.toNat Ty.str.zero)).fst.snd)].length ≤ (16777216 : Nat)) (.need (inK IntKind.i64 (i + (1 : Int))) (.leaf (.normal, ⟨[.str (s), .ptr 2 0, .row 12, .int .i64 (n)], [.row (Ty.str) (ws)], [.bool (r), .own (I64.pair I64) (out ++ [((frI (ws.getD i.toNat Ty.str.zero)).fst.fst, (frI (ws.getD i.toNat Ty.str.zero)).fst.snd)]), .int .i64 (i + (1 : Int))], [[.int .i64 (z1), .int .i64 (z2), .int .i64 (z3), .int .i64 (z4), .nilS]]⟩)))))))) (.leaf ((.exit 0), ⟨[.str (s), .ptr 2 0, .row 12, .int .i64 (n)], [.row (Ty.str) (ws)], [.bool (r), .own (I64.pair I64) (out), .int .i64 (i)], [[.int .i64 (z1), .int .i64 (z2), .int .i64 (z3), .int .i64 (z4), .nilS]]⟩)) := by kernel_rfl
  rw [htree]
  clear htree
  replace hp : n = (ws.length : Int) ∧ (0 ≤ i ∧ i ≤ n) ∧ n ≤ 2000000 ∧ (out.length : Int) ≤ i ∧ (∀ w ∈ ws, w.length ≤ 2000000) := hp
  obtain ⟨rfl, hi, hn, ho, hw⟩ := hp
  have hz : ∀ k : Nat, ws.getD k Ty.str.zero = ws.getD k [] := fun _ => rfl
  simp only [Tree.ok, tyd_inj, packAV, AV.same, AV.same.sameL, encV, encS, enc, inK, Nd.ok, List.headD_cons, List.cons_append, List.nil_append, List.append_nil, true_and, and_true, Bool.true_and, Bool.and_true, loop_next, weakBs_nil, weakBs_cons, weakB_self, weakB_row, weakB_int, weakL_nil, weakL_unk, weakL_guess, isRow_own, isRow_unk, weakL_int, weakL_bool, weakL_str, weakL_own, weakL_view, weakL_nilS, noRow_int, noRow_bool, own_inj, LTree.val, cond_true, cond_false, Prod.mk.injEq, List.cons.injEq, AV.int.injEq, AV.bool.injEq, AV.str.injEq, AV.agg.injEq, ann_iReadTuning_0, hz, decide_eq_true_eq, decide_eq_false_iff_not]
  refine ⟨fun ha => ?_, fun ha => ?_⟩
  · have hx := getD_mem_len hw i.toNat (by omega)
    rw [allM_at _ ws i.toNat (by omega), preM_at _ ws i.toNat (by omega), show (i + 1).toNat = i.toNat + 1 by omega]
    generalize ws.getD i.toNat [] = x at *
    have hD : frO x = (if (frI x).2 = true then some (frI x).1 else none) := rfl
    rw [hD]
    clear hD
    generalize frI x = f at *
    obtain ⟨⟨f1, f2⟩, f3⟩ := f
    simp only
    cases f3
    · simp only [Bool.false_eq_true, if_false]
      repeat' first | apply And.intro | intro _
      all_goals first | omega | exact hw | exact hw _ ‹_› | trivial | rfl | contradiction | (simp; done) | (simp [Tree.ok, tyd_inj, packAV, AV.same, AV.same.sameL, encV, encS, enc, inK, Nd.ok, List.headD_cons, List.cons_append, List.nil_append, List.append_nil, true_and, and_true, Bool.true_and, Bool.and_true, loop_next, weakBs_nil, weakBs_cons, weakB_self, weakB_row, weakB_int, weakL_nil, weakL_unk, weakL_guess, isRow_own, isRow_unk, weakL_int, weakL_bool, weakL_str, weakL_own, weakL_view, weakL_nilS, noRow_int, noRow_bool, own_inj, LTree.val, cond_true, cond_false, Prod.mk.injEq, List.cons.injEq, AV.int.injEq, AV.bool.injEq, AV.str.injEq, AV.agg.injEq]; done) | (simp_all [Tree.ok, tyd_inj, packAV, AV.same, AV.same.sameL, encV, encS, enc, inK, Nd.ok, List.headD_cons, List.cons_append, List.nil_append, List.append_nil, true_and, and_true, Bool.true_and, Bool.and_true, loop_next, weakBs_nil, weakBs_cons, weakB_self, weakB_row, weakB_int, weakL_nil, weakL_unk, weakL_guess, isRow_own, isRow_unk, weakL_int, weakL_bool, weakL_str, weakL_own, weakL_view, weakL_nilS, noRow_int, noRow_bool, own_inj, LTree.val, cond_true, cond_false, Prod.mk.injEq, List.cons.injEq, AV.int.injEq, AV.bool.injEq, AV.str.injEq, AV.agg.injEq]; done) | (simp [Tree.ok, tyd_inj, packAV, AV.same, AV.same.sameL, encV, encS, enc, inK, Nd.ok, List.headD_cons, List.cons_append, List.nil_append, List.append_nil, true_and, and_true, Bool.true_and, Bool.and_true, loop_next, weakBs_nil, weakBs_cons, weakB_self, weakB_row, weakB_int, weakL_nil, weakL_unk, weakL_guess, isRow_own, isRow_unk, weakL_int, weakL_bool, weakL_str, weakL_own, weakL_view, weakL_nilS, noRow_int, noRow_bool, own_inj, LTree.val, cond_true, cond_false, Prod.mk.injEq, List.cons.injEq, AV.int.injEq, AV.bool.injEq, AV.str.injEq, AV.agg.injEq]; omega) | (trace_state; fail)
    · simp only [if_true]
      cases hr : allM frO (ws.drop (i.toNat + 1)) with
      | some l =>
        simp only [Option.isSome_some, List.append_assoc, List.singleton_append, List.length_append, List.length_cons, List.length_nil]
        repeat' first | apply And.intro | intro _
        all_goals first | omega | exact hw | exact hw _ ‹_› | trivial | rfl | contradiction | (simp; done) | (simp [Tree.ok, tyd_inj, packAV, AV.same, AV.same.sameL, encV, encS, enc, inK, Nd.ok, List.headD_cons, List.cons_append, List.nil_append, List.append_nil, true_and, and_true, Bool.true_and, Bool.and_true, loop_next, weakBs_nil, weakBs_cons, weakB_self, weakB_row, weakB_int, weakL_nil, weakL_unk, weakL_guess, isRow_own, isRow_unk, weakL_int, weakL_bool, weakL_str, weakL_own, weakL_view, weakL_nilS, noRow_int, noRow_bool, own_inj, LTree.val, cond_true, cond_false, Prod.mk.injEq, List.cons.injEq, AV.int.injEq, AV.bool.injEq, AV.str.injEq, AV.agg.injEq]; done) | (simp_all [Tree.ok, tyd_inj, packAV, AV.same, AV.same.sameL, encV, encS, enc, inK, Nd.ok, List.headD_cons, List.cons_append, List.nil_append, List.append_nil, true_and, and_true, Bool.true_and, Bool.and_true, loop_next, weakBs_nil, weakBs_cons, weakB_self, weakB_row, weakB_int, weakL_nil, weakL_unk, weakL_guess, isRow_own, isRow_unk, weakL_int, weakL_bool, weakL_str, weakL_own, weakL_view, weakL_nilS, noRow_int, noRow_bool, own_inj, LTree.val, cond_true, cond_false, Prod.mk.injEq, List.cons.injEq, AV.int.injEq, AV.bool.injEq, AV.str.injEq, AV.agg.injEq]; done) | (simp [Tree.ok, tyd_inj, packAV, AV.same, AV.same.sameL, encV, encS, enc, inK, Nd.ok, List.headD_cons, List.cons_append, List.nil_append, List.append_nil, true_and, and_true, Bool.true_and, Bool.and_true, loop_next, weakBs_nil, weakBs_cons, weakB_self, weakB_row, weakB_int, weakL_nil, weakL_unk, weakL_guess, isRow_own, isRow_unk, weakL_int, weakL_bool, weakL_str, weakL_own, weakL_view, weakL_nilS, noRow_int, noRow_bool, own_inj, LTree.val, cond_true, cond_false, Prod.mk.injEq, List.cons.injEq, AV.int.injEq, AV.bool.injEq, AV.str.injEq, AV.agg.injEq]; omega) | (trace_state; fail)
      | none =>
        simp only [Option.isSome_none, List.append_assoc, List.singleton_append, List.length_append, List.length_cons, List.length_nil]
        repeat' first | apply And.intro | intro _
        all_goals first | omega | exact hw | exact hw _ ‹_› | trivial | rfl | contradiction | (simp; done) | (simp [Tree.ok, tyd_inj, packAV, AV.same, AV.same.sameL, encV, encS, enc, inK, Nd.ok, List.headD_cons, List.cons_append, List.nil_append, List.append_nil, true_and, and_true, Bool.true_and, Bool.and_true, loop_next, weakBs_nil, weakBs_cons, weakB_self, weakB_row, weakB_int, weakL_nil, weakL_unk, weakL_guess, isRow_own, isRow_unk, weakL_int, weakL_bool, weakL_str, weakL_own, weakL_view, weakL_nilS, noRow_int, noRow_bool, own_inj, LTree.val, cond_true, cond_false, Prod.mk.injEq, List.cons.injEq, AV.int.injEq, AV.bool.injEq, AV.str.injEq, AV.agg.injEq]; done) | (simp_all [Tree.ok, tyd_inj, packAV, AV.same, AV.same.sameL, encV, encS, enc, inK, Nd.ok, List.headD_cons, List.cons_append, List.nil_append, List.append_nil, true_and, and_true, Bool.true_and, Bool.and_true, loop_next, weakBs_nil, weakBs_cons, weakB_self, weakB_row, weakB_int, weakL_nil, weakL_unk, weakL_guess, isRow_own, isRow_unk, weakL_int, weakL_bool, weakL_str, weakL_own, weakL_view, weakL_nilS, noRow_int, noRow_bool, own_inj, LTree.val, cond_true, cond_false, Prod.mk.injEq, List.cons.injEq, AV.int.injEq, AV.bool.injEq, AV.str.injEq, AV.agg.injEq]; done) | (simp [Tree.ok, tyd_inj, packAV, AV.same, AV.same.sameL, encV, encS, enc, inK, Nd.ok, List.headD_cons, List.cons_append, List.nil_append, List.append_nil, true_and, and_true, Bool.true_and, Bool.and_true, loop_next, weakBs_nil, weakBs_cons, weakB_self, weakB_row, weakB_int, weakL_nil, weakL_unk, weakL_guess, isRow_own, isRow_unk, weakL_int, weakL_bool, weakL_str, weakL_own, weakL_view, weakL_nilS, noRow_int, noRow_bool, own_inj, LTree.val, cond_true, cond_false, Prod.mk.injEq, List.cons.injEq, AV.int.injEq, AV.bool.injEq, AV.str.injEq, AV.agg.injEq]; omega) | (trace_state; fail)
  · rw [List.drop_eq_nil_of_le (by omega)]
    simp [Tree.ok, tyd_inj, packAV, AV.same, AV.same.sameL, encV, encS, enc, inK, Nd.ok, List.headD_cons, List.cons_append, List.nil_append, List.append_nil, true_and, and_true, Bool.true_and, Bool.and_true, loop_next, weakBs_nil, weakBs_cons, weakB_self, weakB_row, weakB_int, weakL_nil, weakL_unk, weakL_guess, isRow_own, isRow_unk, weakL_int, weakL_bool, weakL_str, weakL_own, weakL_view, weakL_nilS, noRow_int, noRow_bool, own_inj, LTree.val, cond_true, cond_false, Prod.mk.injEq, List.cons.injEq, AV.int.injEq, AV.bool.injEq, AV.str.injEq, AV.agg.injEq, allM, preM]
theorem loops_iReadTuning : ∀ c, Tryd.f40.body = some c → LoopsOk Tryd.prog (addL (firstId (loopAt Tryd.f40 0)) ann_iReadTuning_0 noL) Tryd.f40.ntmps c := loopsN fun i hi ann h => by
  have hn : loopN Tryd.f40 = 1 := by kernel_rfl
  rw [hn] at hi
  exact match i, hi, h with
    | 0, _, h => (Option.some.inj ((show (addL (firstId (loopAt Tryd.f40 0)) ann_iReadTuning_0 noL) (firstId (loopAt Tryd.f40 0)) = some ann_iReadTuning_0 from by kernel_rfl).symm.trans h)) ▸ loop_iReadTuning_0
set_option maxHeartbeats 1000000 in
theorem sat_iReadTuning : Sat Tryd.prog 40 ct_iReadTuning := by
  refine sat_typed (C := C_RrB) (L := (addL (firstId (loopAt Tryd.f40 0)) ann_iReadTuning_0 noL)) (wr := false) mixedOk Tryd.func40 C_RrB_ok (loops_iReadTuning) (fun _ => by first | rfl | (simp [ownsOf, ownsOf.ownsL, enc, encV, encS])) fun x hp => ?_
  obtain ⟨(s : List UInt8), _⟩ := x
  replace hp : s.length ≤ 1048576 := hp
  have htree : exFunc Tryd.prog C_RrB false (addL (firstId (loopAt Tryd.f40 0)) ann_iReadTuning_0 noL) Tryd.f40 (encA [.v .str] (s, ())) = .need (s.length ≤ (2000000 : Nat)) (.need ((↑(wordsF s).length : Int) = (↑(wordsF s).length : Int) ∧ ((0 : Int) ≤ (0 : Int) ∧ (0 : Int) ≤ (↑(wordsF s).length : Int)) ∧ (↑(wordsF s).length : Int) ≤ (2000000 : Int) ∧ (↑(0 : Nat) : Int) ≤ (0 : Int) ∧ ∀ (w : Ty.str.den), w ∈ wordsF s → List.length w ≤ (2000000 : Nat)) (.ite ((allM frO (List.drop (Int.toNat (0 : Int)) (wordsF s))).isSome) (.ite (decide ((↑([] ++ preM frO (List.drop (Int.toNat (0 : Int)) (wordsF s))).length : Int) < (3 : Int))) (.leaf [.agg [.int .i64 ((0 : Int)), .int .i64 ((0 : Int)), .int .i64 ((0 : Int)), .int .i64 ((0 : Int)), .nilS], .lit false]) (.need ((0 : Int) ≤ (0 : Int) ∧ (0 : Int) < (↑([] ++ preM frO (List.drop (Int.toNat (0 : Int)) (wordsF s))).length : Int)) (.need (Int.toNat (0 : Int) < ([] ++ preM frO (List.drop (Int.toNat (0 : Int)) (wordsF s))).length) (.need ((0 : Int) ≤ (1 : Int) ∧ (1 : Int) < (↑([] ++ preM frO (List.drop (Int.toNat (0 : Int)) (wordsF s))).length : Int)) (.need (Int.toNat (1 : Int) < ([] ++ preM frO (List.drop (Int.toNat (0 : Int)) (wordsF s))).length) (.need (((0 : Int) ≤ (2 : Int) ∧ (2 : Int) ≤ (↑([] ++ preM frO (List.drop (Int.toNat (0 : Int)) (wordsF s))).length : Int)) ∧ (0 : Nat) < ([] ++ preM frO (List.drop (Int.toNat (0 : Int)) (wordsF s))).length) (.need ((1 : Nat) ≤ (↑([] ++ preM frO (List.drop (Int.toNat (0 : Int)) (wordsF s))).length : Int).toNat - Int.toNat (2 : Int)) (.need ((↑(List.take ((↑([] ++ preM frO (List.drop (Int.toNat (0 : Int)) (wordsF s))).length : Int).toNat - Int.toNat (2 : Int)) (List.drop (Int.toNat (2 : Int)) ([] ++ preM frO (List.drop (Int.toNat (0 : Int)) (wordsF s))))).length : Int) ≤ (9223372036854775807 : Int)) (.ite (!tuneF (((([] ++ preM frO (List.drop (Int.toNat (0 : Int)) (wordsF s))).getD (Int.toNat (0 : Int)) tFrac.zero).fst, (([] ++ preM frO (List.drop (Int.toNat (0 : Int)) (wordsF s))).getD (Int.toNat (0 : Int)) tFrac.zero).snd), ((([] ++ preM frO (List.drop (Int.toNat (0 : Int)) (wordsF s))).getD (Int.toNat (1 : Int)) tFrac.zero).fst, (([] ++ preM frO (List.drop (Int.toNat (0 : Int)) (wordsF s))).getD (Int.toNat (1 : Int)) tFrac.zero).snd), List.take ((↑([] ++ preM frO (List.drop (Int.toNat (0 : Int)) (wordsF s))).length : Int).toNat - Int.toNat (2 : Int)) (List.drop (Int.toNat (2 : Int)) ([] ++ preM frO (List.drop (Int.toNat (0 : Int)) (wordsF s)))))) (.leaf [.agg [.int .i64 ((0 : Int)), .int .i64 ((0 : Int)), .int .i64 ((0 : Int)), .int .i64 ((0 : Int)), .nilS], .lit false]) (.need ((↑(List.take ((↑([] ++ preM frO (List.drop (Int.toNat (0 : Int)) (wordsF s))).length : Int).toNat - Int.toNat (2 : Int)) (List.drop (Int.toNat (2 : Int)) ([] ++ preM frO (List.drop (Int.toNat (0 : Int)) (wordsF s))))).length : Int) ≤ (9223372036854775807 : Int)) (.ite (!decide ((if tuneF (((([] ++ preM frO (List.drop (Int.toNat (0 : Int)) (wordsF s))).getD (Int.toNat (0 : Int)) tFrac.zero).fst, (([] ++ preM frO (List.drop (Int.toNat (0 : Int)) (wordsF s))).getD (Int.toNat (0 : Int)) tFrac.zero).snd), ((([] ++ preM frO (List.drop (Int.toNat (0 : Int)) (wordsF s))).getD (Int.toNat (1 : Int)) tFrac.zero).fst, (([] ++ preM frO (List.drop (Int.toNat (0 : Int)) (wordsF s))).getD (Int.toNat (1 : Int)) tFrac.zero).snd), List.take ((↑([] ++ preM frO (List.drop (Int.toNat (0 : Int)) (wordsF s))).length : Int).toNat - Int.toNat (2 : Int)) (List.drop (Int.toNat (2 : Int)) ([] ++ preM frO (List.drop (Int.toNat (0 : Int)) (wordsF s))))) = true then tuneT (((([] ++ preM frO (List.drop (Int.toNat (0 : Int)) (wordsF s))).getD (Int.toNat (0 : Int)) tFrac.zero).fst, (([] ++ preM frO (List.drop (Int.toNat (0 : Int)) (wordsF s))).getD (Int.toNat (0 : Int)) tFrac.zero).snd), ((([] ++ preM frO (List.drop (Int.toNat (0 : Int)) (wordsF s))).getD (Int.toNat (1 : Int)) tFrac.zero).fst, (([] ++ preM frO (List.drop (Int.toNat (0 : Int)) (wordsF s))).getD (Int.toNat (1 : Int)) tFrac.zero).snd), List.take ((↑([] ++ preM frO (List.drop (Int.toNat (0 : Int)) (wordsF s))).length : Int).toNat - Int.toNat (2 : Int)) (List.drop (Int.toNat (2 : Int)) ([] ++ preM frO (List.drop (Int.toNat (0 : Int)) (wordsF s))))) else []) = s)) (.leaf [.agg [.int .i64 ((0 : Int)), .int .i64 ((0 : Int)), .int .i64 ((0 : Int)), .int .i64 ((0 : Int)), .nilS], .lit false]) (.leaf [.agg [.int .i64 ((([] ++ preM frO (List.drop (Int.toNat (0 : Int)) (wordsF s))).getD (Int.toNat (0 : Int)) tFrac.zero).fst), .int .i64 ((([] ++ preM frO (List.drop (Int.toNat (0 : Int)) (wordsF s))).getD (Int.toNat (0 : Int)) tFrac.zero).snd), .int .i64 ((([] ++ preM frO (List.drop (Int.toNat (0 : Int)) (wordsF s))).getD (Int.toNat (1 : Int)) tFrac.zero).fst), .int .i64 ((([] ++ preM frO (List.drop (Int.toNat (0 : Int)) (wordsF s))).getD (Int.toNat (1 : Int)) tFrac.zero).snd), .own (I64.pair I64) (List.take ((↑([] ++ preM frO (List.drop (Int.toNat (0 : Int)) (wordsF s))).length : Int).toNat - Int.toNat (2 : Int)) (List.drop (Int.toNat (2 : Int)) ([] ++ preM frO (List.drop (Int.toNat (0 : Int)) (wordsF s)))))], .lit true])))))))))))) (.leaf [.agg [.int .i64 ((0 : Int)), .int .i64 ((0 : Int)), .int .i64 ((0 : Int)), .int .i64 ((0 : Int)), .nilS], .bool (false)]))) := by kernel_rfl
  refine (congrArg (Tree.ok _) htree).mpr ?_
  clear htree
  have hp : s.length ≤ 1048576 := hp
  have hV : tnI s = tnOf s (allM frO (wordsF s)) := rfl
  have hl := wordsF_len s
  have hw : ∀ w ∈ wordsF s, w.length ≤ 2000000 := fun w h => Nat.le_trans (words_len w h) (by omega)
  have hP := preM_all (f := frO) (wordsF s)
  simp only [Tree.ok, tyd_inj, packAV, AV.same, AV.same.sameL, encV, encS, enc, inK, Nd.ok, List.headD_cons, List.cons_append, List.nil_append, List.append_nil, true_and, and_true, Bool.true_and, Bool.and_true, hV, Int.toNat_zero, List.drop_zero, List.nil_append]
  clear hV
  generalize hA : allM frO (wordsF s) = A at *
  cases A with
  | none =>
    simp only [Option.isSome_none, tnOf]
    repeat' first | apply And.intro | intro _
    all_goals first | omega | exact hw _ ‹_› | trivial | rfl | contradiction | (simp [Tree.ok, tyd_inj, packAV, AV.same, AV.same.sameL, encV, encS, enc, inK, Nd.ok, List.headD_cons, List.cons_append, List.nil_append, List.append_nil, true_and, and_true, Bool.true_and, Bool.and_true]; done) | (simp_all [Tree.ok, tyd_inj, packAV, AV.same, AV.same.sameL, encV, encS, enc, inK, Nd.ok, List.headD_cons, List.cons_append, List.nil_append, List.append_nil, true_and, and_true, Bool.true_and, Bool.and_true]; done) | (trace_state; fail)
  | some l =>
    have hll := allM_len _ _ hA
    rw [hP l rfl]
    clear hP
    have e2 : Int.toNat 2 = 2 := rfl
    have e1 : Int.toNat 1 = 1 := rfl
    have e3 : ((l.length : Int)).toNat = l.length := by omega
    have et : (l.drop 2).take (l.length - 2) = l.drop 2 := List.take_of_length_le (by rw [List.length_drop]; exact Nat.le_refl _)
    simp only [Option.isSome_some, tnOf, e1, e2, e3, et]
    have hT : (l.getD 0 tFrac.zero, l.getD 1 tFrac.zero, l.drop 2) = tuneOf l := rfl
    have hd : (l.drop 2).length = l.length - 2 := List.length_drop
    simp only [hT, hd, Option.isSome_some, Bool.true_eq_false, false_implies, true_implies]
    by_cases h3 : 3 ≤ l.length
    · have h3' : ¬ ((l.length : Int) < 3) := by omega
      simp only [h3', decide_false, Bool.false_eq_true, false_implies, true_implies]
      cases hk : tuneF (tuneOf l)
      · simp only [Bool.false_eq_true, false_and, and_false, if_false, decide_true, decide_false, Bool.not_true, Bool.not_false, Bool.true_eq_false, false_implies, true_implies]
        repeat' first | apply And.intro | intro _
        all_goals first | omega | exact hw _ ‹_› | trivial | rfl | contradiction | (simp [Tree.ok, tyd_inj, packAV, AV.same, AV.same.sameL, encV, encS, enc, inK, Nd.ok, List.headD_cons, List.cons_append, List.nil_append, List.append_nil, true_and, and_true, Bool.true_and, Bool.and_true]; done) | (simp_all [Tree.ok, tyd_inj, packAV, AV.same, AV.same.sameL, encV, encS, enc, inK, Nd.ok, List.headD_cons, List.cons_append, List.nil_append, List.append_nil, true_and, and_true, Bool.true_and, Bool.and_true]; done) | (trace_state; fail)
      · by_cases ht : tuneT (tuneOf l) = s
        · rw [if_pos ⟨h3, rfl, ht⟩]
          simp only [ht, if_true, decide_true, Bool.not_true, Bool.false_eq_true, false_implies, true_implies]
          repeat' first | apply And.intro | intro _
          all_goals first | omega | exact hw _ ‹_› | trivial | rfl | contradiction | (simp [Tree.ok, tyd_inj, packAV, AV.same, AV.same.sameL, encV, encS, enc, inK, Nd.ok, List.headD_cons, List.cons_append, List.nil_append, List.append_nil, true_and, and_true, Bool.true_and, Bool.and_true]; done) | (simp_all [Tree.ok, tyd_inj, packAV, AV.same, AV.same.sameL, encV, encS, enc, inK, Nd.ok, List.headD_cons, List.cons_append, List.nil_append, List.append_nil, true_and, and_true, Bool.true_and, Bool.and_true]; done) | (trace_state; fail)
        · rw [if_neg (fun h => ht h.2.2)]
          simp only [ht, if_true, if_false, decide_false, Bool.not_false, true_implies, Bool.true_eq_false, false_implies]
          repeat' first | apply And.intro | intro _
          all_goals first | omega | exact hw _ ‹_› | trivial | rfl | contradiction | (simp [Tree.ok, tyd_inj, packAV, AV.same, AV.same.sameL, encV, encS, enc, inK, Nd.ok, List.headD_cons, List.cons_append, List.nil_append, List.append_nil, true_and, and_true, Bool.true_and, Bool.and_true]; done) | (simp_all [Tree.ok, tyd_inj, packAV, AV.same, AV.same.sameL, encV, encS, enc, inK, Nd.ok, List.headD_cons, List.cons_append, List.nil_append, List.append_nil, true_and, and_true, Bool.true_and, Bool.and_true]; done) | (trace_state; fail)
    · rw [if_neg (fun h => h3 h.1)]
      have h3' : (l.length : Int) < 3 := by omega
      simp only [h3', decide_true, Bool.true_eq_false, false_implies, true_implies]
      repeat' first | apply And.intro | intro _
      all_goals first | omega | exact hw _ ‹_› | trivial | rfl | contradiction | (simp [Tree.ok, tyd_inj, packAV, AV.same, AV.same.sameL, encV, encS, enc, inK, Nd.ok, List.headD_cons, List.cons_append, List.nil_append, List.append_nil, true_and, and_true, Bool.true_and, Bool.and_true]; done) | (simp_all [Tree.ok, tyd_inj, packAV, AV.same, AV.same.sameL, encV, encS, enc, inK, Nd.ok, List.headD_cons, List.cons_append, List.nil_append, List.append_nil, true_and, and_true, Bool.true_and, Bool.and_true]; done) | (trace_state; fail)
def C_Rr_1 : FuncId → Option Ct := addC 40 ct_iReadTuning C_RrB
theorem C_Rr_1_ok : COk Tryd.prog C_Rr_1 := addC_ok C_RrB_ok sat_iReadTuning
def ann_sReadTuning_0 : LAnn := { sameS := [0, 2, 4], modS := [3, 5, 6], sameH := [11], modH := [2], base := 900000, nilE := [], nilB := [], G := fun
  | ⟨[.str s, .ptr 2 0, .row 11], [.row .str ws], [.bool r, .own (.pair (.int .i64) (.int .i64)) out, .int .i64 i], [[.int .i64 z1, .int .i64 z2, .int .i64 z3, .int .i64 z4, .nilS]]⟩ => some (.p ((0 ≤ i ∧ i ≤ (ws.length : Int)) ∧ (ws.length : Int) ≤ 26 ∧ (out.length : Int) ≤ i ∧ (∀ w ∈ ws, w.length ≤ 2000000)), .ite (allM frO (ws.drop i.toNat)).isSome (.leaf (.exit 0) [.bool r, .own tFrac (out ++ preM frO (ws.drop i.toNat)), .unk] [[.int .i64 z1, .int .i64 z2, .int .i64 z3, .int .i64 z4, .nilS]]) (.leaf .ret [.bool false, .own tFrac (out ++ preM frO (ws.drop i.toNat)), .unk] [[.int .i64 0, .int .i64 0, .int .i64 0, .int .i64 0, .nilS]]))
  | _ => none }
def ct_sReadTuning : Ct := ctOf [.v .str] (fun ((s : List UInt8), _) => .p (s.length ≤ 1048576)) (fun ((s : List UInt8), _) => .tup [.agg [.int .i64 (tnI s).1.1.1, .int .i64 (tnI s).1.1.2, .int .i64 (tnI s).1.2.1.1, .int .i64 (tnI s).1.2.1.2, .own tFrac (tnI s).1.2.2], .bool (tnI s).2])
set_option maxHeartbeats 1000000 in
theorem loop_sReadTuning_0 : LoopSat Tryd.prog Tryd.f39.ntmps (loopAt Tryd.f39 0) ann_sReadTuning_0 := by
  refine loopSat_of (C := C_Rr_1) (L := (addL (firstId (loopAt Tryd.f39 0)) ann_sReadTuning_0 noL)) (wr := false) mixedOk C_Rr_1_ok (loopsIn0 (by kernel_rfl)) (fun d => match d.blk, d.vals with | [.row .str ws], [_, _, .int _ i] => ((ws.length : Int) - i).toNat | _, _ => 0) fun d p t hG hp => ?_
  simp only [ann_sReadTuning_0] at hG
  split at hG
  rotate_left
  · simp at hG
  rename_i s ws r out i z1 z2 z3 z4
  simp only [Option.some.injEq, Prod.mk.injEq] at hG
  obtain ⟨rfl, rfl⟩ := hG
  have htree : exRound Tryd.prog C_Rr_1 false (addL (firstId (loopAt Tryd.f39 0)) ann_sReadTuning_0 noL) Tryd.f39.ntmps ann_sReadTuning_0 (loopAt Tryd.f39 0) ⟨[.str s, .ptr 2 0, .row 11], [.row .str ws], [.bool r, .own tFrac out, .int .i64 i], [[.int .i64 z1, .int .i64 z2, .int .i64 z3, .int .i64 z4, .nilS]]⟩ = .ite (decide (i < (↑ws.length : Int))) (.need ((0 : Int) ≤ i ∧ i < (↑ws.length : Int)) (.need (i.toNat < ws.length) (.need (List.length (ws.getD i.toNat Ty.str.zero) ≤ (2000000 : Nat)) (.ite (!(frI (ws.getD i.toNat Ty.str.zero)).snd) (.leaf (.ret, ⟨[.str (s), .ptr 2 0, .row 11], [.row (Ty.str) (ws)], [.bool (false), .own (I64.pair I64) (out), .int .i64 (i)], [[.int .i64 ((0 : Int)), .int .i64 ((0 : Int)), .int .i64 ((0 : Int)), .int .i64 ((0 : Int)), .nilS]]⟩)) (.need (out.length + [((frI (ws.getD i.toNat Ty.str.zero)).fst.fst, (frI (ws.getD i.toNat Ty.str.zero)).fst.snd)].length ≤ (16777216 : Nat)) (.need (inK IntKind.i64 (i + (1 : Int))) (.leaf (.normal, ⟨[.str (s), .ptr 2 0, .row 11], [.row (Ty.str) (ws)], [.bool (r), .own (I64.pair I64) (out ++ [((frI (ws.getD i.toNat Ty.str.zero)).fst.fst, (frI (ws.getD i.toNat Ty.str.zero)).fst.snd)]), .int .i64 (i + (1 : Int))], [[.int .i64 (z1), .int .i64 (z2), .int .i64 (z3), .int .i64 (z4), .nilS]]⟩)))))))) (.leaf ((.exit 0), ⟨[.str (s), .ptr 2 0, .row 11], [.row (Ty.str) (ws)], [.bool (r), .own (I64.pair I64) (out), .int .i64 (i)], [[.int .i64 (z1), .int .i64 (z2), .int .i64 (z3), .int .i64 (z4), .nilS]]⟩)) := by kernel_rfl
  rw [htree]
  clear htree
  replace hp : (0 ≤ i ∧ i ≤ (ws.length : Int)) ∧ (ws.length : Int) ≤ 26 ∧ (out.length : Int) ≤ i ∧ (∀ w ∈ ws, w.length ≤ 2000000) := hp
  obtain ⟨hi, hn, ho, hw⟩ := hp
  have hz : ∀ k : Nat, ws.getD k Ty.str.zero = ws.getD k [] := fun _ => rfl
  simp only [Tree.ok, tyd_inj, packAV, AV.same, AV.same.sameL, encV, encS, enc, inK, Nd.ok, List.headD_cons, List.cons_append, List.nil_append, List.append_nil, true_and, and_true, Bool.true_and, Bool.and_true, loop_next, weakBs_nil, weakBs_cons, weakB_self, weakB_row, weakB_int, weakL_nil, weakL_unk, weakL_guess, isRow_own, isRow_unk, weakL_int, weakL_bool, weakL_str, weakL_own, weakL_view, weakL_nilS, noRow_int, noRow_bool, own_inj, LTree.val, cond_true, cond_false, Prod.mk.injEq, List.cons.injEq, AV.int.injEq, AV.bool.injEq, AV.str.injEq, AV.agg.injEq, ann_sReadTuning_0, hz, decide_eq_true_eq, decide_eq_false_iff_not]
  refine ⟨fun ha => ?_, fun ha => ?_⟩
  · have hx := getD_mem_len hw i.toNat (by omega)
    rw [allM_at _ ws i.toNat (by omega), preM_at _ ws i.toNat (by omega), show (i + 1).toNat = i.toNat + 1 by omega]
    generalize ws.getD i.toNat [] = x at *
    have hD : frO x = (if (frI x).2 = true then some (frI x).1 else none) := rfl
    rw [hD]
    clear hD
    generalize frI x = f at *
    obtain ⟨⟨f1, f2⟩, f3⟩ := f
    simp only
    cases f3
    · simp only [Bool.false_eq_true, if_false]
      repeat' first | apply And.intro | intro _
      all_goals first | omega | exact hw | exact hw _ ‹_› | trivial | rfl | contradiction | (simp; done) | (simp [Tree.ok, tyd_inj, packAV, AV.same, AV.same.sameL, encV, encS, enc, inK, Nd.ok, List.headD_cons, List.cons_append, List.nil_append, List.append_nil, true_and, and_true, Bool.true_and, Bool.and_true, loop_next, weakBs_nil, weakBs_cons, weakB_self, weakB_row, weakB_int, weakL_nil, weakL_unk, weakL_guess, isRow_own, isRow_unk, weakL_int, weakL_bool, weakL_str, weakL_own, weakL_view, weakL_nilS, noRow_int, noRow_bool, own_inj, LTree.val, cond_true, cond_false, Prod.mk.injEq, List.cons.injEq, AV.int.injEq, AV.bool.injEq, AV.str.injEq, AV.agg.injEq]; done) | (simp_all [Tree.ok, tyd_inj, packAV, AV.same, AV.same.sameL, encV, encS, enc, inK, Nd.ok, List.headD_cons, List.cons_append, List.nil_append, List.append_nil, true_and, and_true, Bool.true_and, Bool.and_true, loop_next, weakBs_nil, weakBs_cons, weakB_self, weakB_row, weakB_int, weakL_nil, weakL_unk, weakL_guess, isRow_own, isRow_unk, weakL_int, weakL_bool, weakL_str, weakL_own, weakL_view, weakL_nilS, noRow_int, noRow_bool, own_inj, LTree.val, cond_true, cond_false, Prod.mk.injEq, List.cons.injEq, AV.int.injEq, AV.bool.injEq, AV.str.injEq, AV.agg.injEq]; done) | (simp [Tree.ok, tyd_inj, packAV, AV.same, AV.same.sameL, encV, encS, enc, inK, Nd.ok, List.headD_cons, List.cons_append, List.nil_append, List.append_nil, true_and, and_true, Bool.true_and, Bool.and_true, loop_next, weakBs_nil, weakBs_cons, weakB_self, weakB_row, weakB_int, weakL_nil, weakL_unk, weakL_guess, isRow_own, isRow_unk, weakL_int, weakL_bool, weakL_str, weakL_own, weakL_view, weakL_nilS, noRow_int, noRow_bool, own_inj, LTree.val, cond_true, cond_false, Prod.mk.injEq, List.cons.injEq, AV.int.injEq, AV.bool.injEq, AV.str.injEq, AV.agg.injEq]; omega) | (trace_state; fail)
    · simp only [if_true]
      cases hr : allM frO (ws.drop (i.toNat + 1)) with
      | some l =>
        simp only [Option.isSome_some, List.append_assoc, List.singleton_append, List.length_append, List.length_cons, List.length_nil]
        repeat' first | apply And.intro | intro _
        all_goals first | omega | exact hw | exact hw _ ‹_› | trivial | rfl | contradiction | (simp; done) | (simp [Tree.ok, tyd_inj, packAV, AV.same, AV.same.sameL, encV, encS, enc, inK, Nd.ok, List.headD_cons, List.cons_append, List.nil_append, List.append_nil, true_and, and_true, Bool.true_and, Bool.and_true, loop_next, weakBs_nil, weakBs_cons, weakB_self, weakB_row, weakB_int, weakL_nil, weakL_unk, weakL_guess, isRow_own, isRow_unk, weakL_int, weakL_bool, weakL_str, weakL_own, weakL_view, weakL_nilS, noRow_int, noRow_bool, own_inj, LTree.val, cond_true, cond_false, Prod.mk.injEq, List.cons.injEq, AV.int.injEq, AV.bool.injEq, AV.str.injEq, AV.agg.injEq]; done) | (simp_all [Tree.ok, tyd_inj, packAV, AV.same, AV.same.sameL, encV, encS, enc, inK, Nd.ok, List.headD_cons, List.cons_append, List.nil_append, List.append_nil, true_and, and_true, Bool.true_and, Bool.and_true, loop_next, weakBs_nil, weakBs_cons, weakB_self, weakB_row, weakB_int, weakL_nil, weakL_unk, weakL_guess, isRow_own, isRow_unk, weakL_int, weakL_bool, weakL_str, weakL_own, weakL_view, weakL_nilS, noRow_int, noRow_bool, own_inj, LTree.val, cond_true, cond_false, Prod.mk.injEq, List.cons.injEq, AV.int.injEq, AV.bool.injEq, AV.str.injEq, AV.agg.injEq]; done) | (simp [Tree.ok, tyd_inj, packAV, AV.same, AV.same.sameL, encV, encS, enc, inK, Nd.ok, List.headD_cons, List.cons_append, List.nil_append, List.append_nil, true_and, and_true, Bool.true_and, Bool.and_true, loop_next, weakBs_nil, weakBs_cons, weakB_self, weakB_row, weakB_int, weakL_nil, weakL_unk, weakL_guess, isRow_own, isRow_unk, weakL_int, weakL_bool, weakL_str, weakL_own, weakL_view, weakL_nilS, noRow_int, noRow_bool, own_inj, LTree.val, cond_true, cond_false, Prod.mk.injEq, List.cons.injEq, AV.int.injEq, AV.bool.injEq, AV.str.injEq, AV.agg.injEq]; omega) | (trace_state; fail)
      | none =>
        simp only [Option.isSome_none, List.append_assoc, List.singleton_append, List.length_append, List.length_cons, List.length_nil]
        repeat' first | apply And.intro | intro _
        all_goals first | omega | exact hw | exact hw _ ‹_› | trivial | rfl | contradiction | (simp; done) | (simp [Tree.ok, tyd_inj, packAV, AV.same, AV.same.sameL, encV, encS, enc, inK, Nd.ok, List.headD_cons, List.cons_append, List.nil_append, List.append_nil, true_and, and_true, Bool.true_and, Bool.and_true, loop_next, weakBs_nil, weakBs_cons, weakB_self, weakB_row, weakB_int, weakL_nil, weakL_unk, weakL_guess, isRow_own, isRow_unk, weakL_int, weakL_bool, weakL_str, weakL_own, weakL_view, weakL_nilS, noRow_int, noRow_bool, own_inj, LTree.val, cond_true, cond_false, Prod.mk.injEq, List.cons.injEq, AV.int.injEq, AV.bool.injEq, AV.str.injEq, AV.agg.injEq]; done) | (simp_all [Tree.ok, tyd_inj, packAV, AV.same, AV.same.sameL, encV, encS, enc, inK, Nd.ok, List.headD_cons, List.cons_append, List.nil_append, List.append_nil, true_and, and_true, Bool.true_and, Bool.and_true, loop_next, weakBs_nil, weakBs_cons, weakB_self, weakB_row, weakB_int, weakL_nil, weakL_unk, weakL_guess, isRow_own, isRow_unk, weakL_int, weakL_bool, weakL_str, weakL_own, weakL_view, weakL_nilS, noRow_int, noRow_bool, own_inj, LTree.val, cond_true, cond_false, Prod.mk.injEq, List.cons.injEq, AV.int.injEq, AV.bool.injEq, AV.str.injEq, AV.agg.injEq]; done) | (simp [Tree.ok, tyd_inj, packAV, AV.same, AV.same.sameL, encV, encS, enc, inK, Nd.ok, List.headD_cons, List.cons_append, List.nil_append, List.append_nil, true_and, and_true, Bool.true_and, Bool.and_true, loop_next, weakBs_nil, weakBs_cons, weakB_self, weakB_row, weakB_int, weakL_nil, weakL_unk, weakL_guess, isRow_own, isRow_unk, weakL_int, weakL_bool, weakL_str, weakL_own, weakL_view, weakL_nilS, noRow_int, noRow_bool, own_inj, LTree.val, cond_true, cond_false, Prod.mk.injEq, List.cons.injEq, AV.int.injEq, AV.bool.injEq, AV.str.injEq, AV.agg.injEq]; omega) | (trace_state; fail)
  · rw [List.drop_eq_nil_of_le (by omega)]
    simp [Tree.ok, tyd_inj, packAV, AV.same, AV.same.sameL, encV, encS, enc, inK, Nd.ok, List.headD_cons, List.cons_append, List.nil_append, List.append_nil, true_and, and_true, Bool.true_and, Bool.and_true, loop_next, weakBs_nil, weakBs_cons, weakB_self, weakB_row, weakB_int, weakL_nil, weakL_unk, weakL_guess, isRow_own, isRow_unk, weakL_int, weakL_bool, weakL_str, weakL_own, weakL_view, weakL_nilS, noRow_int, noRow_bool, own_inj, LTree.val, cond_true, cond_false, Prod.mk.injEq, List.cons.injEq, AV.int.injEq, AV.bool.injEq, AV.str.injEq, AV.agg.injEq, allM, preM]
theorem loops_sReadTuning : ∀ c, Tryd.f39.body = some c → LoopsOk Tryd.prog (addL (firstId (loopAt Tryd.f39 0)) ann_sReadTuning_0 noL) Tryd.f39.ntmps c := loopsN fun i hi ann h => by
  have hn : loopN Tryd.f39 = 1 := by kernel_rfl
  rw [hn] at hi
  exact match i, hi, h with
    | 0, _, h => (Option.some.inj ((show (addL (firstId (loopAt Tryd.f39 0)) ann_sReadTuning_0 noL) (firstId (loopAt Tryd.f39 0)) = some ann_sReadTuning_0 from by kernel_rfl).symm.trans h)) ▸ loop_sReadTuning_0
set_option maxHeartbeats 1000000 in
theorem sat_sReadTuning : Sat Tryd.prog 39 ct_sReadTuning := by
  refine sat_typed (C := C_Rr_1) (L := (addL (firstId (loopAt Tryd.f39 0)) ann_sReadTuning_0 noL)) (wr := false) mixedOk Tryd.func39 C_Rr_1_ok (loops_sReadTuning) (fun _ => by first | rfl | (simp [ownsOf, ownsOf.ownsL, enc, encV, encS])) fun x hp => ?_
  obtain ⟨(s : List UInt8), _⟩ := x
  replace hp : s.length ≤ 1048576 := hp
  have htree : exFunc Tryd.prog C_Rr_1 false (addL (firstId (loopAt Tryd.f39 0)) ann_sReadTuning_0 noL) Tryd.f39 (encA [.v .str] (s, ())) = .need (s.length ≤ (2000000 : Nat) ∧ (0 : Int) ≤ (32 : Int) ∧ (32 : Int) ≤ (255 : Int)) (.ite (decide ((↑(splitC (UInt8.ofNat (Int.toNat (32 : Int))) s).length : Int) < (3 : Int))) (.leaf [.agg [.int .i64 ((0 : Int)), .int .i64 ((0 : Int)), .int .i64 ((0 : Int)), .int .i64 ((0 : Int)), .nilS], .lit false]) (.ite (decide ((26 : Int) < (↑(splitC (UInt8.ofNat (Int.toNat (32 : Int))) s).length : Int))) (.leaf [.agg [.int .i64 ((0 : Int)), .int .i64 ((0 : Int)), .int .i64 ((0 : Int)), .int .i64 ((0 : Int)), .nilS], .lit false]) (.need (((0 : Int) ≤ (0 : Int) ∧ (0 : Int) ≤ (↑(splitC (UInt8.ofNat (Int.toNat (32 : Int))) s).length : Int)) ∧ (↑(splitC (UInt8.ofNat (Int.toNat (32 : Int))) s).length : Int) ≤ (26 : Int) ∧ (↑(0 : Nat) : Int) ≤ (0 : Int) ∧ ∀ (w : Ty.str.den), w ∈ splitC (UInt8.ofNat (Int.toNat (32 : Int))) s → List.length w ≤ (2000000 : Nat)) (.ite ((allM frO (List.drop (Int.toNat (0 : Int)) (splitC (UInt8.ofNat (Int.toNat (32 : Int))) s))).isSome) (.need ((0 : Int) ≤ (0 : Int) ∧ (0 : Int) < (↑([] ++ preM frO (List.drop (Int.toNat (0 : Int)) (splitC (UInt8.ofNat (Int.toNat (32 : Int))) s))).length : Int)) (.need (Int.toNat (0 : Int) < ([] ++ preM frO (List.drop (Int.toNat (0 : Int)) (splitC (UInt8.ofNat (Int.toNat (32 : Int))) s))).length) (.need ((0 : Int) ≤ (1 : Int) ∧ (1 : Int) < (↑([] ++ preM frO (List.drop (Int.toNat (0 : Int)) (splitC (UInt8.ofNat (Int.toNat (32 : Int))) s))).length : Int)) (.need (Int.toNat (1 : Int) < ([] ++ preM frO (List.drop (Int.toNat (0 : Int)) (splitC (UInt8.ofNat (Int.toNat (32 : Int))) s))).length) (.need (((0 : Int) ≤ (2 : Int) ∧ (2 : Int) ≤ (↑([] ++ preM frO (List.drop (Int.toNat (0 : Int)) (splitC (UInt8.ofNat (Int.toNat (32 : Int))) s))).length : Int)) ∧ (0 : Nat) < ([] ++ preM frO (List.drop (Int.toNat (0 : Int)) (splitC (UInt8.ofNat (Int.toNat (32 : Int))) s))).length) (.need ((0 : Nat) + (List.take ((↑([] ++ preM frO (List.drop (Int.toNat (0 : Int)) (splitC (UInt8.ofNat (Int.toNat (32 : Int))) s))).length : Int).toNat - Int.toNat (2 : Int)) (List.drop (Int.toNat (2 : Int)) ([] ++ preM frO (List.drop (Int.toNat (0 : Int)) (splitC (UInt8.ofNat (Int.toNat (32 : Int))) s))))).length ≤ (16777216 : Nat)) (.need ((↑([] ++ List.take ((↑([] ++ preM frO (List.drop (Int.toNat (0 : Int)) (splitC (UInt8.ofNat (Int.toNat (32 : Int))) s))).length : Int).toNat - Int.toNat (2 : Int)) (List.drop (Int.toNat (2 : Int)) ([] ++ preM frO (List.drop (Int.toNat (0 : Int)) (splitC (UInt8.ofNat (Int.toNat (32 : Int))) s))))).length : Int) ≤ (9223372036854775807 : Int)) (.ite (!tuneF (((([] ++ preM frO (List.drop (Int.toNat (0 : Int)) (splitC (UInt8.ofNat (Int.toNat (32 : Int))) s))).getD (Int.toNat (0 : Int)) tFrac.zero).fst, (([] ++ preM frO (List.drop (Int.toNat (0 : Int)) (splitC (UInt8.ofNat (Int.toNat (32 : Int))) s))).getD (Int.toNat (0 : Int)) tFrac.zero).snd), ((([] ++ preM frO (List.drop (Int.toNat (0 : Int)) (splitC (UInt8.ofNat (Int.toNat (32 : Int))) s))).getD (Int.toNat (1 : Int)) tFrac.zero).fst, (([] ++ preM frO (List.drop (Int.toNat (0 : Int)) (splitC (UInt8.ofNat (Int.toNat (32 : Int))) s))).getD (Int.toNat (1 : Int)) tFrac.zero).snd), [] ++ List.take ((↑([] ++ preM frO (List.drop (Int.toNat (0 : Int)) (splitC (UInt8.ofNat (Int.toNat (32 : Int))) s))).length : Int).toNat - Int.toNat (2 : Int)) (List.drop (Int.toNat (2 : Int)) ([] ++ preM frO (List.drop (Int.toNat (0 : Int)) (splitC (UInt8.ofNat (Int.toNat (32 : Int))) s)))))) (.leaf [.agg [.int .i64 ((0 : Int)), .int .i64 ((0 : Int)), .int .i64 ((0 : Int)), .int .i64 ((0 : Int)), .nilS], .lit false]) (.leaf [.agg [.int .i64 ((([] ++ preM frO (List.drop (Int.toNat (0 : Int)) (splitC (UInt8.ofNat (Int.toNat (32 : Int))) s))).getD (Int.toNat (0 : Int)) tFrac.zero).fst), .int .i64 ((([] ++ preM frO (List.drop (Int.toNat (0 : Int)) (splitC (UInt8.ofNat (Int.toNat (32 : Int))) s))).getD (Int.toNat (0 : Int)) tFrac.zero).snd), .int .i64 ((([] ++ preM frO (List.drop (Int.toNat (0 : Int)) (splitC (UInt8.ofNat (Int.toNat (32 : Int))) s))).getD (Int.toNat (1 : Int)) tFrac.zero).fst), .int .i64 ((([] ++ preM frO (List.drop (Int.toNat (0 : Int)) (splitC (UInt8.ofNat (Int.toNat (32 : Int))) s))).getD (Int.toNat (1 : Int)) tFrac.zero).snd), .own ((Ty.int IntKind.i64).pair (Ty.int IntKind.i64)) ([] ++ List.take ((↑([] ++ preM frO (List.drop (Int.toNat (0 : Int)) (splitC (UInt8.ofNat (Int.toNat (32 : Int))) s))).length : Int).toNat - Int.toNat (2 : Int)) (List.drop (Int.toNat (2 : Int)) ([] ++ preM frO (List.drop (Int.toNat (0 : Int)) (splitC (UInt8.ofNat (Int.toNat (32 : Int))) s)))))], .lit true]))))))))) (.leaf [.agg [.int .i64 ((0 : Int)), .int .i64 ((0 : Int)), .int .i64 ((0 : Int)), .int .i64 ((0 : Int)), .nilS], .bool (false)]))))) := by kernel_rfl
  refine (congrArg (Tree.ok _) htree).mpr ?_
  clear htree
  have hp : s.length ≤ 1048576 := hp
  have hw : ∀ w ∈ splitC 32 s, w.length ≤ 2000000 := fun w h => Nat.le_trans (splitC_mem_len 32 s w h) (by omega)
  have hP := preM_all (f := frO) (splitC 32 s)
  have e32 : UInt8.ofNat (Int.toNat 32) = 32 := rfl
  have hV : tnI s = if 3 ≤ (splitC 32 s).length ∧ (splitC 32 s).length ≤ 26 then (match allM frO (splitC 32 s) with
    | some l => if tuneF (tuneOf l) = true then (tuneOf l, true) else (((0, 0), (0, 0), []), false)
    | none => (((0, 0), (0, 0), []), false)) else (((0, 0), (0, 0), []), false) := (tn_eq s).symm
  simp only [Tree.ok, tyd_inj, packAV, AV.same, AV.same.sameL, encV, encS, enc, inK, Nd.ok, List.headD_cons, List.cons_append, List.nil_append, List.append_nil, true_and, and_true, Bool.true_and, Bool.and_true, hV, e32, Int.toNat_zero, List.drop_zero, List.nil_append]
  clear hV
  have hL := fun l => allM_len (f := frO) (splitC 32 s) l
  generalize hA : allM frO (splitC 32 s) = A at *
  generalize splitC 32 s = ws at *
  by_cases g3 : 3 ≤ ws.length
  · by_cases g26 : ws.length ≤ 26
    · have k3 : ¬ ((ws.length : Int) < 3) := by omega
      have k26 : ¬ (26 < (ws.length : Int)) := by omega
      simp only [k3, k26, decide_false, Bool.false_eq_true, false_implies, true_implies, g3, g26, and_self, if_true]
      cases A with
      | none =>
        simp only [Option.isSome_none]
        repeat' first | apply And.intro | intro _
        all_goals first | omega | exact hw _ ‹_› | trivial | rfl | contradiction | (simp [Tree.ok, tyd_inj, packAV, AV.same, AV.same.sameL, encV, encS, enc, inK, Nd.ok, List.headD_cons, List.cons_append, List.nil_append, List.append_nil, true_and, and_true, Bool.true_and, Bool.and_true]; done) | (simp_all [Tree.ok, tyd_inj, packAV, AV.same, AV.same.sameL, encV, encS, enc, inK, Nd.ok, List.headD_cons, List.cons_append, List.nil_append, List.append_nil, true_and, and_true, Bool.true_and, Bool.and_true]; done) | (trace_state; fail)
      | some l =>
        have hll := hL l rfl
        rw [hP l rfl]
        clear hP hL
        have e2 : Int.toNat 2 = 2 := rfl
        have e1 : Int.toNat 1 = 1 := rfl
        have e3 : ((l.length : Int)).toNat = l.length := by omega
        have et : (l.drop 2).take (l.length - 2) = l.drop 2 := List.take_of_length_le (by rw [List.length_drop]; exact Nat.le_refl _)
        simp only [Option.isSome_some, e1, e2, e3, et]
        have hT : (l.getD 0 tFrac.zero, l.getD 1 tFrac.zero, l.drop 2) = tuneOf l := rfl
        have hd : (l.drop 2).length = l.length - 2 := List.length_drop
        simp only [hT, hd, List.nil_append, Option.isSome_some, Bool.true_eq_false, false_implies, true_implies]
        cases hk : tuneF (tuneOf l)
        · simp only [Bool.false_eq_true, if_false, decide_true, decide_false, Bool.not_true, Bool.not_false, Bool.true_eq_false, false_implies, true_implies]
          repeat' first | apply And.intro | intro _
          all_goals first | omega | exact hw _ ‹_› | trivial | rfl | contradiction | (simp [Tree.ok, tyd_inj, packAV, AV.same, AV.same.sameL, encV, encS, enc, inK, Nd.ok, List.headD_cons, List.cons_append, List.nil_append, List.append_nil, true_and, and_true, Bool.true_and, Bool.and_true]; done) | (simp_all [Tree.ok, tyd_inj, packAV, AV.same, AV.same.sameL, encV, encS, enc, inK, Nd.ok, List.headD_cons, List.cons_append, List.nil_append, List.append_nil, true_and, and_true, Bool.true_and, Bool.and_true]; done) | (trace_state; fail)
        · simp only [if_true, Bool.not_true, Bool.false_eq_true, false_implies, true_implies]
          repeat' first | apply And.intro | intro _
          all_goals first | omega | exact hw _ ‹_› | trivial | rfl | contradiction | (simp [Tree.ok, tyd_inj, packAV, AV.same, AV.same.sameL, encV, encS, enc, inK, Nd.ok, List.headD_cons, List.cons_append, List.nil_append, List.append_nil, true_and, and_true, Bool.true_and, Bool.and_true]; done) | (simp_all [Tree.ok, tyd_inj, packAV, AV.same, AV.same.sameL, encV, encS, enc, inK, Nd.ok, List.headD_cons, List.cons_append, List.nil_append, List.append_nil, true_and, and_true, Bool.true_and, Bool.and_true]; done) | (trace_state; fail)
    · have k3 : ¬ ((ws.length : Int) < 3) := by omega
      have k26 : (26 < (ws.length : Int)) := by omega
      rw [if_neg (fun h => g26 h.2)]
      simp only [k3, k26, decide_true, decide_false, Bool.false_eq_true, Bool.true_eq_false, false_implies, true_implies]
      repeat' first | apply And.intro | intro _
      all_goals first | omega | exact hw _ ‹_› | trivial | rfl | contradiction | (simp [Tree.ok, tyd_inj, packAV, AV.same, AV.same.sameL, encV, encS, enc, inK, Nd.ok, List.headD_cons, List.cons_append, List.nil_append, List.append_nil, true_and, and_true, Bool.true_and, Bool.and_true]; done) | (simp_all [Tree.ok, tyd_inj, packAV, AV.same, AV.same.sameL, encV, encS, enc, inK, Nd.ok, List.headD_cons, List.cons_append, List.nil_append, List.append_nil, true_and, and_true, Bool.true_and, Bool.and_true]; done) | (trace_state; fail)
  · have k3 : ((ws.length : Int) < 3) := by omega
    rw [if_neg (fun h => g3 h.1)]
    simp only [k3, decide_true, decide_false, Bool.false_eq_true, Bool.true_eq_false, false_implies, true_implies]
    repeat' first | apply And.intro | intro _
    all_goals first | omega | exact hw _ ‹_› | trivial | rfl | contradiction | (simp [Tree.ok, tyd_inj, packAV, AV.same, AV.same.sameL, encV, encS, enc, inK, Nd.ok, List.headD_cons, List.cons_append, List.nil_append, List.append_nil, true_and, and_true, Bool.true_and, Bool.and_true]; done) | (simp_all [Tree.ok, tyd_inj, packAV, AV.same, AV.same.sameL, encV, encS, enc, inK, Nd.ok, List.headD_cons, List.cons_append, List.nil_append, List.append_nil, true_and, and_true, Bool.true_and, Bool.and_true]; done) | (trace_state; fail)
def C_Rr_2 : FuncId → Option Ct := addC 39 ct_sReadTuning C_Rr_1
theorem C_Rr_2_ok : COk Tryd.prog C_Rr_2 := addC_ok C_Rr_1_ok sat_sReadTuning
theorem tnI_len (s : List UInt8) : ((tnI s).1.2.2 : List tFrac.den).length ≤ 24 := by
  unfold tnI tnOf
  split
  · split
    · rename_i h
      have := (tune_bd h.2.1).2.2.2
      exact this
    · simp
  · simp
def ct_lawReadTuning : Ct := ctOf [.v .str] (fun _ => .tt) (fun ((s : List UInt8), _) => .bool true)
set_option maxHeartbeats 1000000 in
theorem sat_lawReadTuning : Sat Tryd.prog 10 ct_lawReadTuning := by
  refine sat_typed (C := C_Rr_2) (L := noL) (wr := false) mixedOk Tryd.func10 C_Rr_2_ok (loops0 (by kernel_rfl)) (fun _ => by first | rfl | (simp [ownsOf, ownsOf.ownsL, enc, encV, encS])) fun x hp => ?_
  obtain ⟨(s : List UInt8), _⟩ := x
  clear hp
  have htree : exFunc Tryd.prog C_Rr_2 false noL Tryd.f10 (encA [.v .str] (s, ())) = .ite (decide ((1048576 : Int) < (↑s.length : Int))) (.leaf [.lit true]) (.need (s.length ≤ (1048576 : Nat)) (.need (s.length ≤ (1048576 : Nat)) (.need ((↑(List.length (tnI s).fst.snd.snd) : Int) ≤ (9223372036854775807 : Int)) (.ite (!decide ((tnI s).fst.fst.fst = (tnI s).fst.fst.fst ∧ (tnI s).fst.fst.snd = (tnI s).fst.fst.snd ∧ (tnI s).fst.snd.fst.fst = (tnI s).fst.snd.fst.fst ∧ (tnI s).fst.snd.fst.snd = (tnI s).fst.snd.fst.snd ∧ (tnI s).fst.snd.snd = (tnI s).fst.snd.snd)) (.leaf [.lit false]) (.ite (!(tnI s).snd == (tnI s).snd) (.leaf [.lit false]) (.need (List.length (tnI s).fst.snd.snd ≤ (16777216 : Nat) ∧ (0 : Int) ≤ (1 : Int) ∧ (1 : Int) ≤ (1000000000000 : Int)) (.need ((rowMark mkFracV (2 : Int) (List.length (tnI s).fst.snd.snd) (1 : Int)).length ≤ (16777216 : Nat) ∧ (0 : Int) ≤ (1 : Int) ∧ (1 : Int) ≤ (1000000000000 : Int)) (.ite (decide (heldR mkFracV (2 : Int) (rowMark mkFracV (2 : Int) (List.length (tnI s).fst.snd.snd) (1 : Int)) (1 : Int) < (0 : Int))) (.leaf [.lit false]) (.ite (heldR mkFracV (2 : Int) (rowMark mkFracV (2 : Int) (List.length (tnI s).fst.snd.snd) (1 : Int)) (1 : Int) != (1 : Int) + (2 : Int) * (↑(List.length (tnI s).fst.snd.snd) : Int)) (.leaf [.lit false]) (.need (s.length ≤ (1048576 : Nat)) (.need ((↑(List.length (tnI s).fst.snd.snd) : Int) ≤ (9223372036854775807 : Int)) (.ite (!decide ((tnI s).fst.fst.fst = (tnI s).fst.fst.fst ∧ (tnI s).fst.fst.snd = (tnI s).fst.fst.snd ∧ (tnI s).fst.snd.fst.fst = (tnI s).fst.snd.fst.fst ∧ (tnI s).fst.snd.fst.snd = (tnI s).fst.snd.fst.snd ∧ (tnI s).fst.snd.snd = (tnI s).fst.snd.snd)) (.leaf [.lit false]) (.ite (!(tnI s).snd == (tnI s).snd) (.leaf [.lit false]) (.need ((rowMark mkFracV (2 : Int) (List.length (tnI s).fst.snd.snd) (1 : Int)).length ≤ (16777216 : Nat) ∧ (0 : Int) ≤ (1 : Int) ∧ (1 : Int) ≤ (1000000000000 : Int)) (.ite (decide (heldR mkFracV (2 : Int) (rowMark mkFracV (2 : Int) (List.length (tnI s).fst.snd.snd) (1 : Int)) (1 : Int) < (0 : Int))) (.leaf [.lit false]) (.ite (heldR mkFracV (2 : Int) (rowMark mkFracV (2 : Int) (List.length (tnI s).fst.snd.snd) (1 : Int)) (1 : Int) != (1 : Int) + (2 : Int) * (↑(List.length (tnI s).fst.snd.snd) : Int)) (.leaf [.lit false]) (.leaf [.lit true]))))))))))))))))) := by kernel_rfl
  refine (congrArg (Tree.ok _) htree).mpr ?_
  clear htree
  have h1 := tnI_len s
  have eta : ∀ z : Fr, (z.1, z.2) = z := fun _ => rfl
  simp only [Tree.ok, tyd_inj, packAV, AV.same, AV.same.sameL, encV, encS, enc, inK, Nd.ok, List.headD_cons, List.cons_append, List.nil_append, List.append_nil, true_and, and_true, Bool.true_and, Bool.and_true, eta, heldR_mark, rowMark_length]
  generalize tnI s = q at *
  obtain ⟨⟨⟨b1, b2⟩, ⟨o1, o2⟩, rs⟩, c⟩ := q
  repeat' first | apply And.intro | intro _
  all_goals first | omega | trivial | grind
def C_Rr_3 : FuncId → Option Ct := addC 10 ct_lawReadTuning C_Rr_2
theorem C_Rr_3_ok : COk Tryd.prog C_Rr_3 := addC_ok C_Rr_2_ok sat_lawReadTuning

def C_Rr : FuncId → Option Ct := C_Rr_3
theorem C_Rr_ok : COk Tryd.prog C_Rr := C_Rr_3_ok
end Go.Proofs.YtkeckmdmmbeaiaaDoor
