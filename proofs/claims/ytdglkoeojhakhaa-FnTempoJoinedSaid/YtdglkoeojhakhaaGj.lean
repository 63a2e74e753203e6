/- Contracts: tempo maps joined, drawn tempo maps, over one table. Conditions: as each says. -/
import Derived.Test.YtdglkoeojhakhaaGc
import Derived.Test.YtdglkoeojhakhaaGdL
import Derived.Test.YtdglkoeojhakhaaDu
set_option linter.unusedSimpArgs false
set_option linter.unusedVariables false
namespace Go.Proofs.Ytdglkoeojhakhaa
open Go.RowKit Sx
set_option maxRecDepth 100000
set_option maxHeartbeats 1000000
def C_GjB : FuncId → Option Ct := addC 54 ct_A2Tempos (addC 48 ct_a2Long C_Gc)
theorem C_GjB_ok : COk Try.prog C_GjB := addC_ok (addC_ok C_Gc_ok sat_a2Long) sat_A2Tempos
def ct_toldTempos : Ct := ctOfM [.os qTempo] (fun ((l : List tTempo.den), _) => .p (l.length ≤ 16777216)) (fun ((l : List tTempo.den), _) => .tup [.agg [.own tTempo (tendF l).1], .int .i64 (tendF l).2])
set_option maxHeartbeats 1000000 in
theorem sat_toldTempos : Sat Try.prog 154 ct_toldTempos := by
  refine sat_typedM (C := C_GjB) (L := noL) (wr := false) mixedOk Try.func154 C_GjB_ok (loops0 (by kernel_rfl)) (fun _ => ⟨rfl, by first | rfl | (simp [ownsOf, ownsOf.ownsL, enc, encV, encS])⟩) fun x hp => ?_
  obtain ⟨(l : List tTempo.den), _⟩ := x
  replace hp : l.length ≤ 16777216 := hp
  have htree : exFuncW Try.prog C_GjB false noL Try.f154 false (rowed.rowedL BR (encA [.os qTempo] (l, ()))) ⟨tTempo, l⟩ = .ite (decide ((8 : Int) < (↑l.length : Int))) (.leaf ([.agg [.nilS], .int .i64 ((5 : Int))], none)) (.need ((↑l.length : Int) ≤ (9223372036854775807 : Int)) (.ite (!tmapF l) (.leaf ([.agg [.nilS], .int .i64 ((2 : Int))], none)) (.leaf ([.agg [.own (tFrac.pair I64) (l)], .int .i64 ((0 : Int))], none)))) := by kernel_rfl
  refine (congrArg (Tree.ok _) htree).mpr ?_
  clear htree
  simp only [Tree.ok, tyd_inj, packAV, AV.same, AV.same.sameL, encV, encS, enc, inK, Nd.ok, List.headD_cons, List.cons_append, List.nil_append, List.append_nil, true_and, and_true, Bool.true_and, Bool.and_true, tendF]
  by_cases h : 8 < l.length
  · simp only [if_pos h]
    repeat' first | apply And.intro | intro _
    all_goals first | omega | trivial | (simp_all; done) | (simp_all; omega)
  · simp only [if_neg h]
    cases ht : tmapF l
    · simp
      repeat' first | apply And.intro | intro _
      all_goals first | omega | trivial | (simp_all; done) | (simp_all; omega)
    · simp
      repeat' first | apply And.intro | intro _
      all_goals first | omega | trivial | (simp_all; done) | (simp_all; omega)
def C_Gj_1 : FuncId → Option Ct := addC 154 ct_toldTempos C_GjB
theorem C_Gj_1_ok : COk Try.prog C_Gj_1 := addC_ok C_GjB_ok sat_toldTempos
def ann_iJoinTempos_0 : LAnn := { sameS := [4, 5, 6, 9, 25, 26], modS := [7, 27], sameH := [4, 5], modH := [6, 9], base := 900000, nilE := [], nilB := [⟨9, 0, 800000, tTempo⟩], G := fun
  | ⟨[.ptr 4 0, .ptr 5 0, .ptr 6 0, .ptr 9 0, .view (.pair (.pair (.int .i64) (.int .i64)) (.int .i64)) ts, .int .i64 n], [.box [.int .i64 u, .int .i64 v], .box [.view (.pair (.pair (.int .i64) (.int .i64)) (.int .i64)) us]], [.int .i64 c, .int .i64 i], [[.nilS], [.own (.pair (.pair (.int .i64) (.int .i64)) (.int .i64)) out]]⟩ => some (.p ((0 ≤ i ∧ i ≤ n) ∧ n = (ts.length : Int) ∧ okF u v = true ∧ (∀ k, k < ts.length → okF (tAt ts k).1.1 (tAt ts k).1.2 = true) ∧ ts.length ≤ 8 ∧ (out.length : Int) ≤ i), .leaf (.exit 0) [.int .i64 c, .unk] [[.nilS], [.own tTempo (out ++ keepLt (ts.drop i.toNat) u v)]])
  | _ => none }
def ann_iJoinTempos_1 : LAnn := { sameS := [4, 6, 9, 44, 45], modS := [7, 46], sameH := [4], modH := [6, 9], base := 950000, nilE := [], nilB := [], G := fun
  | ⟨[.ptr 4 0, .ptr 6 0, .ptr 9 0, .view (.pair (.pair (.int .i64) (.int .i64)) (.int .i64)) us, .int .i64 n], [.box [.int .i64 u, .int .i64 v]], [.int .i64 c, .int .i64 i], [[.nilS], [.own (.pair (.pair (.int .i64) (.int .i64)) (.int .i64)) out]]⟩ => some (.p ((0 ≤ i ∧ i ≤ n) ∧ n = (us.length : Int) ∧ us.length ≤ 8 ∧ (out.length : Int) ≤ 8 + i), .leaf (.exit 2) [.int .i64 c, .unk] [[.nilS], [.own tTempo (out ++ shiftL (us.drop i.toNat) u v)]])
  | _ => none }
def ct_iJoinTempos : Ct := ctOf [.s qTempo, .s tFrac, .s qTempo] (fun ((ts : List tTempo.den), ((u : Int), (v : Int)), (us : List tTempo.den), _) => .p ((ts.length : Int) ≤ 9223372036854775807 ∧ (us.length : Int) ≤ 9223372036854775807)) (fun ((ts : List tTempo.den), ((u : Int), (v : Int)), (us : List tTempo.den), _) => .tup [.agg [.own tTempo (joinF ts u v us).1], .int .i64 (joinF ts u v us).2])
set_option maxHeartbeats 1000000 in
theorem loop_iJoinTempos_1 : LoopSat Try.prog Try.f55.ntmps (loopAt Try.f55 1) ann_iJoinTempos_1 := by
  refine loopSat_of (C := C_Gj_1) (L := (addL (firstId (loopAt Try.f55 1)) ann_iJoinTempos_1 (addL (firstId (loopAt Try.f55 0)) ann_iJoinTempos_0 noL))) (wr := false) mixedOk C_Gj_1_ok (loopsIn0 (by kernel_rfl)) (fun d => match d.same, d.vals with | [_, _, _, _, .int _ n], [_, .int _ i] => (n - i).toNat | _, _ => 0) fun d p t hG hp => ?_
  simp only [ann_iJoinTempos_1] at hG
  split at hG
  rotate_left
  · simp at hG
  rename_i us n u v c i out
  simp only [Option.some.injEq, Prod.mk.injEq] at hG
  obtain ⟨rfl, rfl⟩ := hG
  have htree : exRound Try.prog C_Gj_1 false (addL (firstId (loopAt Try.f55 1)) ann_iJoinTempos_1 (addL (firstId (loopAt Try.f55 0)) ann_iJoinTempos_0 noL)) Try.f55.ntmps ann_iJoinTempos_1 (loopAt Try.f55 1) ⟨[.ptr 4 0, .ptr 6 0, .ptr 9 0, .view tTempo us, .int .i64 n], [.box [.int .i64 u, .int .i64 v]], [.int .i64 c, .int .i64 i], [[.nilS], [.own tTempo out]]⟩ = .ite (decide (i < n)) (.need ((0 : Int) ≤ i ∧ i < (↑us.length : Int)) (.need (out.length + [(((addF (getT tTempo us i).fst.fst (getT tTempo us i).fst.snd u v).fst.fst, (addF (getT tTempo us i).fst.fst (getT tTempo us i).fst.snd u v).fst.snd), (getT tTempo us i).snd)].length ≤ (16777216 : Nat)) (.need (inK IntKind.i64 (i + (1 : Int))) (.leaf (.normal, ⟨[.ptr 4 0, .ptr 6 0, .ptr 9 0, .view (tFrac.pair I64) (us), .int .i64 (n)], [.box [.int .i64 (u), .int .i64 (v)]], [.int .i64 (c), .int .i64 (i + (1 : Int))], [[.nilS], [.own (tFrac.pair I64) (out ++ [(((addF (getT tTempo us i).fst.fst (getT tTempo us i).fst.snd u v).fst.fst, (addF (getT tTempo us i).fst.fst (getT tTempo us i).fst.snd u v).fst.snd), (getT tTempo us i).snd)])]]⟩))))) (.leaf ((.exit 2), ⟨[.ptr 4 0, .ptr 6 0, .ptr 9 0, .view (tFrac.pair I64) (us), .int .i64 (n)], [.box [.int .i64 (u), .int .i64 (v)]], [.int .i64 (c), .int .i64 (i)], [[.nilS], [.own (tFrac.pair I64) (out)]]⟩)) := by kernel_rfl
  rw [htree]
  clear htree
  replace hp : (0 ≤ i ∧ i ≤ n) ∧ n = (us.length : Int) ∧ us.length ≤ 8 ∧ (out.length : Int) ≤ 8 + i := hp
  have hz : ∀ (k : Int), getT tTempo us k = tAt us k.toNat := fun _ => rfl
  obtain ⟨hi, hn, hl, ho⟩ := hp
  simp only [Tree.ok, tyd_inj, packAV, AV.same, AV.same.sameL, encV, encS, enc, inK, Nd.ok, List.headD_cons, List.cons_append, List.nil_append, List.append_nil, true_and, and_true, Bool.true_and, Bool.and_true, loop_next, weakBs_nil, weakBs_cons, weakB_self, weakB_row, weakB_int, weakL_nil, weakL_unk, weakL_guess, isRow_own, isRow_unk, weakL_int, weakL_bool, weakL_str, weakL_own, weakL_view, weakL_nilS, noRow_int, noRow_bool, own_inj, LTree.val, cond_true, cond_false, Prod.mk.injEq, List.cons.injEq, AV.int.injEq, AV.bool.injEq, AV.str.injEq, AV.agg.injEq, ann_iJoinTempos_1, decide_eq_true_eq, decide_eq_false_iff_not, hz]
  refine ⟨fun ha => ?_, fun ha => ?_⟩
  · rw [show (i + 1).toNat = i.toNat + 1 by omega, shiftL_step us u v i.toNat (by omega)]
    simp only [List.length_append, List.length_cons, List.length_nil, List.append_assoc]
    repeat' first | apply And.intro | intro _
    all_goals first | omega | assumption | trivial | rfl | contradiction
  · rw [show us.drop i.toNat = [] from List.drop_eq_nil_of_le (by omega)]
    simp [Tree.ok, tyd_inj, packAV, AV.same, AV.same.sameL, encV, encS, enc, inK, Nd.ok, List.headD_cons, List.cons_append, List.nil_append, List.append_nil, true_and, and_true, Bool.true_and, Bool.and_true, loop_next, weakBs_nil, weakBs_cons, weakB_self, weakB_row, weakB_int, weakL_nil, weakL_unk, weakL_guess, isRow_own, isRow_unk, weakL_int, weakL_bool, weakL_str, weakL_own, weakL_view, weakL_nilS, noRow_int, noRow_bool, own_inj, LTree.val, cond_true, cond_false, Prod.mk.injEq, List.cons.injEq, AV.int.injEq, AV.bool.injEq, AV.str.injEq, AV.agg.injEq, shiftL]
set_option maxHeartbeats 1000000 in
theorem loop_iJoinTempos_0 : LoopSat Try.prog Try.f55.ntmps (loopAt Try.f55 0) ann_iJoinTempos_0 := by
  refine loopSat_of (C := C_Gj_1) (L := (addL (firstId (loopAt Try.f55 1)) ann_iJoinTempos_1 (addL (firstId (loopAt Try.f55 0)) ann_iJoinTempos_0 noL))) (wr := false) mixedOk C_Gj_1_ok (loopsIn0 (by kernel_rfl)) (fun d => match d.same, d.vals with | [_, _, _, _, _, .int _ n], [_, .int _ i] => (n - i).toNat | _, _ => 0) fun d p t hG hp => ?_
  simp only [ann_iJoinTempos_0] at hG
  split at hG
  rotate_left
  · simp at hG
  rename_i ts n u v us c i out
  simp only [Option.some.injEq, Prod.mk.injEq] at hG
  obtain ⟨rfl, rfl⟩ := hG
  have htree : exRound Try.prog C_Gj_1 false (addL (firstId (loopAt Try.f55 1)) ann_iJoinTempos_1 (addL (firstId (loopAt Try.f55 0)) ann_iJoinTempos_0 noL)) Try.f55.ntmps ann_iJoinTempos_0 (loopAt Try.f55 0) ⟨[.ptr 4 0, .ptr 5 0, .ptr 6 0, .ptr 9 0, .view tTempo ts, .int .i64 n], [.box [.int .i64 u, .int .i64 v], .box [.view tTempo us]], [.int .i64 c, .int .i64 i], [[.nilS], [.own tTempo out]]⟩ = .ite (decide (i < n)) (.need ((0 : Int) ≤ i ∧ i < (↑ts.length : Int)) (.need ((((1 : Int) ≤ (getT tTempo ts i).fst.snd ∧ (getT tTempo ts i).fst.snd ≤ (1000000 : Int)) ∧ (-1000000000 : Int) ≤ (getT tTempo ts i).fst.fst ∧ (getT tTempo ts i).fst.fst ≤ (1000000000 : Int)) ∧ ((1 : Int) ≤ v ∧ v ≤ (1000000 : Int)) ∧ (-1000000000 : Int) ≤ u ∧ u ≤ (1000000000 : Int)) (.ite (decide (cmpF (getT tTempo ts i).fst.fst (getT tTempo ts i).fst.snd u v < (0 : Int))) (.need (out.length + [(((getT tTempo ts i).fst.fst, (getT tTempo ts i).fst.snd), (getT tTempo ts i).snd)].length ≤ (16777216 : Nat)) (.need (inK IntKind.i64 (i + (1 : Int))) (.leaf (.normal, ⟨[.ptr 4 0, .ptr 5 0, .ptr 6 0, .ptr 9 0, .view (tFrac.pair I64) (ts), .int .i64 (n)], [.box [.int .i64 (u), .int .i64 (v)], .box [.view (tFrac.pair I64) (us)]], [.int .i64 (c), .int .i64 (i + (1 : Int))], [[.nilS], [.own (tFrac.pair I64) (out ++ [(((getT tTempo ts i).fst.fst, (getT tTempo ts i).fst.snd), (getT tTempo ts i).snd)])]]⟩)))) (.need (inK IntKind.i64 (i + (1 : Int))) (.leaf (.normal, ⟨[.ptr 4 0, .ptr 5 0, .ptr 6 0, .ptr 9 0, .view (tFrac.pair I64) (ts), .int .i64 (n)], [.box [.int .i64 (u), .int .i64 (v)], .box [.view (tFrac.pair I64) (us)]], [.int .i64 (c), .int .i64 (i + (1 : Int))], [[.nilS], [.own (tFrac.pair I64) (out)]]⟩)))))) (.leaf ((.exit 0), ⟨[.ptr 4 0, .ptr 5 0, .ptr 6 0, .ptr 9 0, .view (tFrac.pair I64) (ts), .int .i64 (n)], [.box [.int .i64 (u), .int .i64 (v)], .box [.view (tFrac.pair I64) (us)]], [.int .i64 (c), .int .i64 (i)], [[.nilS], [.own (tFrac.pair I64) (out)]]⟩)) := by kernel_rfl
  rw [htree]
  clear htree
  replace hp : (0 ≤ i ∧ i ≤ n) ∧ n = (ts.length : Int) ∧ okF u v = true ∧ (∀ k, k < ts.length → okF (tAt ts k).1.1 (tAt ts k).1.2 = true) ∧ ts.length ≤ 8 ∧ (out.length : Int) ≤ i := hp
  have hz : ∀ (k : Int), getT tTempo ts k = tAt ts k.toNat := fun _ => rfl
  obtain ⟨hi, hn, hb, hok, hl, ho⟩ := hp
  simp only [Tree.ok, tyd_inj, packAV, AV.same, AV.same.sameL, encV, encS, enc, inK, Nd.ok, List.headD_cons, List.cons_append, List.nil_append, List.append_nil, true_and, and_true, Bool.true_and, Bool.and_true, loop_next, weakBs_nil, weakBs_cons, weakB_self, weakB_row, weakB_int, weakL_nil, weakL_unk, weakL_guess, isRow_own, isRow_unk, weakL_int, weakL_bool, weakL_str, weakL_own, weakL_view, weakL_nilS, noRow_int, noRow_bool, own_inj, LTree.val, cond_true, cond_false, Prod.mk.injEq, List.cons.injEq, AV.int.injEq, AV.bool.injEq, AV.str.injEq, AV.agg.injEq, ann_iJoinTempos_0, decide_eq_true_eq, decide_eq_false_iff_not, hz]
  refine ⟨fun ha => ?_, fun ha => ?_⟩
  · have g0 := okF_bd (hok i.toNat (by omega))
    have g2 := okF_bd hb
    rw [show (i + 1).toNat = i.toNat + 1 by omega, keepLt_step ts u v i.toNat (by omega)]
    have hcb : cmpF (tAt ts i.toNat).1.1 (tAt ts i.toNat).1.2 u v = cmpB (tAt ts i.toNat).1 (u, v) := rfl
    simp only [hcb, List.length_append, List.length_cons, List.length_nil, List.append_assoc]
    by_cases hc : cmpB (tAt ts i.toNat).1 (u, v) < 0
    · simp only [if_pos hc]
      repeat' first | apply And.intro | intro _
      all_goals first | omega | exact hok _ ‹_› | assumption | trivial | rfl | contradiction | exact g0.1.1 | exact g0.1.2 | exact g0.2.1 | exact g0.2.2
    · simp only [if_neg hc, List.nil_append]
      repeat' first | apply And.intro | intro _
      all_goals first | omega | exact hok _ ‹_› | assumption | trivial | rfl | contradiction | exact g0.1.1 | exact g0.1.2 | exact g0.2.1 | exact g0.2.2
  · rw [show ts.drop i.toNat = [] from List.drop_eq_nil_of_le (by omega)]
    simp [Tree.ok, tyd_inj, packAV, AV.same, AV.same.sameL, encV, encS, enc, inK, Nd.ok, List.headD_cons, List.cons_append, List.nil_append, List.append_nil, true_and, and_true, Bool.true_and, Bool.and_true, loop_next, weakBs_nil, weakBs_cons, weakB_self, weakB_row, weakB_int, weakL_nil, weakL_unk, weakL_guess, isRow_own, isRow_unk, weakL_int, weakL_bool, weakL_str, weakL_own, weakL_view, weakL_nilS, noRow_int, noRow_bool, own_inj, LTree.val, cond_true, cond_false, Prod.mk.injEq, List.cons.injEq, AV.int.injEq, AV.bool.injEq, AV.str.injEq, AV.agg.injEq, keepLt]
theorem loops_iJoinTempos : ∀ c, Try.f55.body = some c → LoopsOk Try.prog (addL (firstId (loopAt Try.f55 1)) ann_iJoinTempos_1 (addL (firstId (loopAt Try.f55 0)) ann_iJoinTempos_0 noL)) Try.f55.ntmps c := loopsN fun i hi ann h => by
  have hn : loopN Try.f55 = 2 := by kernel_rfl
  rw [hn] at hi
  exact match i, hi, h with
    | 0, _, h => (Option.some.inj ((show (addL (firstId (loopAt Try.f55 1)) ann_iJoinTempos_1 (addL (firstId (loopAt Try.f55 0)) ann_iJoinTempos_0 noL)) (firstId (loopAt Try.f55 0)) = some ann_iJoinTempos_0 from by kernel_rfl).symm.trans h)) ▸ loop_iJoinTempos_0
    | 1, _, h => (Option.some.inj ((show (addL (firstId (loopAt Try.f55 1)) ann_iJoinTempos_1 (addL (firstId (loopAt Try.f55 0)) ann_iJoinTempos_0 noL)) (firstId (loopAt Try.f55 1)) = some ann_iJoinTempos_1 from by kernel_rfl).symm.trans h)) ▸ loop_iJoinTempos_1
set_option maxHeartbeats 1000000 in
theorem sat_iJoinTempos : Sat Try.prog 55 ct_iJoinTempos := by
  refine sat_typed (C := C_Gj_1) (L := (addL (firstId (loopAt Try.f55 1)) ann_iJoinTempos_1 (addL (firstId (loopAt Try.f55 0)) ann_iJoinTempos_0 noL))) (wr := false) mixedOk Try.func55 C_Gj_1_ok (loops_iJoinTempos) (fun _ => by first | rfl | (simp [ownsOf, ownsOf.ownsL, enc, encV, encS])) fun x hp => ?_
  obtain ⟨(ts : List tTempo.den), ⟨(u : Int), (v : Int)⟩, (us : List tTempo.den), _⟩ := x
  replace hp : (ts.length : Int) ≤ 9223372036854775807 ∧ (us.length : Int) ≤ 9223372036854775807 := hp
  have htree : exFunc Try.prog C_Gj_1 false (addL (firstId (loopAt Try.f55 1)) ann_iJoinTempos_1 (addL (firstId (loopAt Try.f55 0)) ann_iJoinTempos_0 noL)) Try.f55 (encA [.s qTempo, .s tFrac, .s qTempo] (ts, (u, v), us, ())) = .need ((↑[ts, us].length : Int) ≤ (9223372036854775807 : Int) ∧ ∀ (ts_1 : List tTempo.den), ts_1 ∈ [ts, us] → (↑ts_1.length : Int) ≤ (9223372036854775807 : Int)) (.ite (bcF [ts, us] (u, v) != (0 : Int)) (.leaf [.agg [.nilS], .int .i64 (bcF [ts, us] (u, v))]) (.need (((0 : Int) ≤ (0 : Int) ∧ (0 : Int) ≤ (↑ts.length : Int)) ∧ (↑ts.length : Int) = (↑ts.length : Int) ∧ okF u v = true ∧ (∀ (k : Nat), k < ts.length → okF (tAt ts k).fst.fst (tAt ts k).fst.snd = true) ∧ ts.length ≤ (8 : Nat) ∧ (↑(0 : Nat) : Int) ≤ (0 : Int)) (.need (((0 : Int) ≤ (0 : Int) ∧ (0 : Int) ≤ (↑us.length : Int)) ∧ (↑us.length : Int) = (↑us.length : Int) ∧ us.length ≤ (8 : Nat) ∧ (↑([] ++ keepLt (List.drop (Int.toNat (0 : Int)) ts) u v).length : Int) ≤ (8 : Int) + (0 : Int)) (.need (([] ++ keepLt (List.drop (Int.toNat (0 : Int)) ts) u v ++ shiftL (List.drop (Int.toNat (0 : Int)) us) u v).length ≤ (16777216 : Nat)) (.leaf [.agg [.own (tFrac.pair I64) ((tendF ([] ++ keepLt (List.drop (Int.toNat (0 : Int)) ts) u v ++ shiftL (List.drop (Int.toNat (0 : Int)) us) u v)).fst)], .int .i64 ((tendF ([] ++ keepLt (List.drop (Int.toNat (0 : Int)) ts) u v ++ shiftL (List.drop (Int.toNat (0 : Int)) us) u v)).snd)]))))) := by kernel_rfl
  refine (congrArg (Tree.ok _) htree).mpr ?_
  clear htree
  have hm : ∀ x ∈ ([ts, us] : List (List tTempo.den)), (x.length : Int) ≤ 9223372036854775807 := fun x hx => by
    simp only [List.mem_cons, List.not_mem_nil, or_false] at hx
    rcases hx with rfl | rfl
    · exact hp.1
    · exact hp.2
  have e1 := keepLt_len ts u v
  have e2 := shiftL_len us u v
  simp only [Tree.ok, tyd_inj, packAV, AV.same, AV.same.sameL, encV, encS, enc, inK, Nd.ok, List.headD_cons, List.cons_append, List.nil_append, List.append_nil, true_and, and_true, Bool.true_and, Bool.and_true, joinF, bne_iff_ne, ne_eq, bne_eq_false_iff_eq, Int.toNat_zero, List.drop_zero, List.nil_append, List.length_append, List.length_cons, List.length_nil]
  by_cases h : bcF [ts, us] (u, v) = 0
  · obtain ⟨⟨⟨g1, g1'⟩, g2⟩, g3⟩ := bcF_two h
    obtain ⟨k1, k2, k3⟩ := tmap_beats g1
    obtain ⟨k1', k2', k3'⟩ := tmap_beats g1'
    rw [if_neg (by simp [h])]
    repeat' first | apply And.intro | intro _
    all_goals first | omega | exact g2 | exact k3 _ ‹_› | assumption | trivial | rfl | contradiction | exact hm _ ‹_› | (simp_all; done)
  · rw [if_pos h]
    repeat' first | apply And.intro | intro _
    all_goals first | omega | assumption | trivial | rfl | contradiction | exact hm _ ‹_› | (simp_all; done)
def C_Gj_2 : FuncId → Option Ct := addC 55 ct_iJoinTempos C_Gj_1
theorem C_Gj_2_ok : COk Try.prog C_Gj_2 := addC_ok C_Gj_1_ok sat_iJoinTempos

def C_Gj : FuncId → Option Ct := C_Gj_2
theorem C_Gj_ok : COk Try.prog C_Gj := C_Gj_2_ok
end Go.Proofs.Ytdglkoeojhakhaa
