/- Contracts: ratios brought into an octave, of the program and the reference. Conditions: as each says. -/
import Derived.Test.YtkeckmdmmbeaiaaGreatDoorRdL
set_option linter.unusedSimpArgs false
set_option linter.unusedVariables false
namespace Go.Proofs.YtkeckmdmmbeaiaaGreatDoor
open Go.RowKit Sx
set_option maxRecDepth 100000
set_option maxHeartbeats 1000000
theorem div_bad {r o : Fr} (hr : PosF r) (ho : OctF o) : (divF r.1 r.2 o.1 o.2).2 = 0 ∨ (divF r.1 r.2 o.1 o.2).2 = 2 ∧ (divF r.1 r.2 o.1 o.2).1 = (0, 0) := by
  have := okF_bd hr.ok
  have h0 : o.1 ≠ 0 := by
    have h1 := ho.big
    have h2 := okF_bd ho.ok
    rw [cmpB_gt] at h1
    simp only at h1
    omega
  unfold divF
  rw [if_pos ⟨hr.ok, ho.ok⟩, if_neg h0]
  exact mkF_code _ _ (fun e => by rcases Int.mul_eq_zero.1 e with e | e <;> omega)
theorem mul_bad {r o : Fr} (hr : PosF r) (ho : OctF o) : (mulF r.1 r.2 o.1 o.2).2 = 0 ∨ (mulF r.1 r.2 o.1 o.2).2 = 2 ∧ (mulF r.1 r.2 o.1 o.2).1 = (0, 0) := (mulF_ok hr.ok ho.ok).imp (fun h => h.1) id
def ann_l15Reduce_0 : LAnn := { sameS := [2, 3, 4], modS := [5, 6, 7], sameH := [3], modH := [2, 4], base := 900000, nilE := [], nilB := [], G := fun
  | ⟨[.ptr 2 0, .ptr 3 0, .ptr 4 0], [.box [.int .i64 oa, .int .i64 ob]], [.int .i64 c5, .int .i64 c6, .int .i64 n], [[.int .i64 a, .int .i64 b], [.int .i64 z1, .int .i64 z2]]⟩ => some (.p (PosF (a, b) ∧ OctF (oa, ob)), .ite (decide ((dnF (oa, ob) (a, b) n).2.2 = 0)) (.leaf (.exit 0) [.int .i64 c5, .int .i64 c6, .int .i64 (dnF (oa, ob) (a, b) n).2.1] [[.int .i64 (dnF (oa, ob) (a, b) n).1.1, .int .i64 (dnF (oa, ob) (a, b) n).1.2], [.int .i64 z1, .int .i64 z2]]) (.leaf .ret [.int .i64 0, .int .i64 2, .unk] [[.unk, .unk], [.int .i64 0, .int .i64 0]]))
  | _ => none }
def ann_l15Reduce_1 : LAnn := { sameS := [2, 3, 4], modS := [5, 6, 7], sameH := [3], modH := [2, 4], base := 900000, nilE := [], nilB := [], G := fun
  | ⟨[.ptr 2 0, .ptr 3 0, .ptr 4 0], [.box [.int .i64 oa, .int .i64 ob]], [.int .i64 c5, .int .i64 c6, .int .i64 n], [[.int .i64 a, .int .i64 b], [.int .i64 z1, .int .i64 z2]]⟩ => some (.p (PosF (a, b) ∧ OctF (oa, ob)), .ite (decide ((upF (oa, ob) (a, b) n).2.2 = 0)) (.leaf (.exit 2) [.int .i64 c5, .int .i64 c6, .int .i64 (upF (oa, ob) (a, b) n).2.1] [[.int .i64 (upF (oa, ob) (a, b) n).1.1, .int .i64 (upF (oa, ob) (a, b) n).1.2], [.int .i64 z1, .int .i64 z2]]) (.leaf .ret [.int .i64 0, .int .i64 2, .unk] [[.unk, .unk], [.int .i64 0, .int .i64 0]]))
  | _ => none }
def ct_l15Reduce : Ct := ctOf [.s tFrac, .s tFrac] (fun ((r : tFrac.den), (o : tFrac.den), _) => .p (PosF r ∧ OctF o)) (fun ((r : tFrac.den), (o : tFrac.den), _) => .tup [.agg (enc tFrac (redF r o).1), .int .i64 (redF r o).2.1, .int .i64 (redF r o).2.2])
set_option maxHeartbeats 1000000 in
theorem loop_l15Reduce_1 : LoopSat Tryz.prog Tryz.f151.ntmps (loopAt Tryz.f151 1) ann_l15Reduce_1 := by
  refine loopSat_of (C := C_Fj) (L := (addL (firstId (loopAt Tryz.f151 1)) ann_l15Reduce_1 (addL (firstId (loopAt Tryz.f151 0)) ann_l15Reduce_0 noL))) (wr := true) mixedOk C_Fj_ok (loopsIn0 (by kernel_rfl)) (fun d => match d.boxes with | [[.int _ a, .int _ b], _] => mU (a, b) | _ => 0) fun d p t hG hp => ?_
  simp only [ann_l15Reduce_1] at hG
  split at hG
  rotate_left
  · simp at hG
  rename_i oa ob c5 c6 n a b z1 z2
  simp only [Option.some.injEq, Prod.mk.injEq] at hG
  obtain ⟨rfl, rfl⟩ := hG
  have htree : exRound Tryz.prog C_Fj true (addL (firstId (loopAt Tryz.f151 1)) ann_l15Reduce_1 (addL (firstId (loopAt Tryz.f151 0)) ann_l15Reduce_0 noL)) Tryz.f151.ntmps ann_l15Reduce_1 (loopAt Tryz.f151 1) ⟨[.ptr 2 0, .ptr 3 0, .ptr 4 0], [.box [.int .i64 oa, .int .i64 ob]], [.int .i64 c5, .int .i64 c6, .int .i64 n], [[.int .i64 a, .int .i64 b], [.int .i64 z1, .int .i64 z2]]⟩ = .need ((((1 : Int) ≤ b ∧ b ≤ (1000000 : Int)) ∧ (-1000000000 : Int) ≤ a ∧ a ≤ (1000000000 : Int)) ∧ ((1 : Int) ≤ (1 : I64.den) ∧ (1 : I64.den) ≤ (1000000 : Int)) ∧ (-1000000000 : Int) ≤ (1 : I64.den) ∧ (1 : I64.den) ≤ (1000000000 : Int)) (.ite (decide (cmpF a b (1 : I64.den) (1 : I64.den) < (0 : Int))) (.ite ((mulF a b oa ob).snd != (0 : Int)) (.leaf (.ret, ⟨[.ptr 2 0, .ptr 3 0, .ptr 4 0], [.box [.int .i64 (oa), .int .i64 (ob)]], [.int .i64 ((0 : Int)), .int .i64 ((2 : Int)), .int .i64 (n)], [[.int .i64 (a), .int .i64 (b)], [.int .i64 ((0 : Int)), .int .i64 ((0 : Int))]]⟩)) (.leaf (.normal, ⟨[.ptr 2 0, .ptr 3 0, .ptr 4 0], [.box [.int .i64 (oa), .int .i64 (ob)]], [.int .i64 (c5), .int .i64 (c6), .int .i64 (IntKind.i64.wrap (n - (1 : Int)))], [[.int .i64 ((mulF a b oa ob).fst.fst), .int .i64 ((mulF a b oa ob).fst.snd)], [.int .i64 (z1), .int .i64 (z2)]]⟩))) (.leaf ((.exit 2), ⟨[.ptr 2 0, .ptr 3 0, .ptr 4 0], [.box [.int .i64 (oa), .int .i64 (ob)]], [.int .i64 (c5), .int .i64 (c6), .int .i64 (n)], [[.int .i64 (a), .int .i64 (b)], [.int .i64 (z1), .int .i64 (z2)]]⟩))) := by kernel_rfl
  rw [htree]
  clear htree
  replace hp : PosF (a, b) ∧ OctF (oa, ob) := hp
  obtain ⟨hr, ho⟩ := hp
  have b1 := okF_bd hr.ok
  have b2 := okF_bd ho.ok
  have hs := up_step ho hr n
  have hm := fun h => mU_up hr ho h
  have hq := fun h => (mul_pos' hr ho h).1
  simp only [Tree.ok, tyd_inj, packAV, AV.same, AV.same.sameL, encV, encS, enc, inK, Nd.ok, List.headD_cons, List.cons_append, List.nil_append, List.append_nil, true_and, and_true, Bool.true_and, Bool.and_true, loop_next, weakBs_nil, weakBs_cons, weakB_self, weakB_row, weakB_int, weakL_nil, weakL_unk, weakL_guess, isRow_own, isRow_unk, weakL_int, weakL_bool, weakL_str, weakL_own, weakL_view, weakL_nilS, noRow_int, noRow_bool, own_inj, LTree.val, cond_true, cond_false, Prod.mk.injEq, List.cons.injEq, AV.int.injEq, AV.bool.injEq, AV.str.injEq, AV.agg.injEq, ann_l15Reduce_1, decide_eq_true_eq, decide_eq_false_iff_not, bne_iff_ne, ne_eq, bne_eq_false_iff_eq]
  rw [hs]
  clear hs
  simp only [cmpB] at *
  try simp only at hm hq b1 b2
  generalize mulF a b oa ob = q at *
  obtain ⟨⟨q1, q2⟩, q3⟩ := q
  try simp only at hm hq ⊢
  refine ⟨⟨b1, by decide⟩, fun h1 => ?_, fun h1 => ?_⟩
  · rw [if_pos h1]
    refine ⟨fun h2 => ?_, fun h2 => ?_⟩
    · rw [if_neg h2]
      simp [Tree.ok, tyd_inj, packAV, AV.same, AV.same.sameL, encV, encS, enc, inK, Nd.ok, List.headD_cons, List.cons_append, List.nil_append, List.append_nil, true_and, and_true, Bool.true_and, Bool.and_true, loop_next, weakBs_nil, weakBs_cons, weakB_self, weakB_row, weakB_int, weakL_nil, weakL_unk, weakL_guess, isRow_own, isRow_unk, weakL_int, weakL_bool, weakL_str, weakL_own, weakL_view, weakL_nilS, noRow_int, noRow_bool, own_inj, LTree.val, cond_true, cond_false, Prod.mk.injEq, List.cons.injEq, AV.int.injEq, AV.bool.injEq, AV.str.injEq, AV.agg.injEq]
    · rw [if_pos h2]
      have g1 := hm h2
      have g2 := hq h2
      repeat' first | apply And.intro | intro _
      all_goals first | omega | assumption | rfl | exact ⟨g2, ho⟩ | trivial
  · rw [if_neg h1]
    simp [Tree.ok, tyd_inj, packAV, AV.same, AV.same.sameL, encV, encS, enc, inK, Nd.ok, List.headD_cons, List.cons_append, List.nil_append, List.append_nil, true_and, and_true, Bool.true_and, Bool.and_true, loop_next, weakBs_nil, weakBs_cons, weakB_self, weakB_row, weakB_int, weakL_nil, weakL_unk, weakL_guess, isRow_own, isRow_unk, weakL_int, weakL_bool, weakL_str, weakL_own, weakL_view, weakL_nilS, noRow_int, noRow_bool, own_inj, LTree.val, cond_true, cond_false, Prod.mk.injEq, List.cons.injEq, AV.int.injEq, AV.bool.injEq, AV.str.injEq, AV.agg.injEq]
set_option maxHeartbeats 1000000 in
theorem loop_l15Reduce_0 : LoopSat Tryz.prog Tryz.f151.ntmps (loopAt Tryz.f151 0) ann_l15Reduce_0 := by
  refine loopSat_of (C := C_Fj) (L := (addL (firstId (loopAt Tryz.f151 1)) ann_l15Reduce_1 (addL (firstId (loopAt Tryz.f151 0)) ann_l15Reduce_0 noL))) (wr := true) mixedOk C_Fj_ok (loopsIn0 (by kernel_rfl)) (fun d => match d.boxes with | [[.int _ a, .int _ b], _] => mD (a, b) | _ => 0) fun d p t hG hp => ?_
  simp only [ann_l15Reduce_0] at hG
  split at hG
  rotate_left
  · simp at hG
  rename_i oa ob c5 c6 n a b z1 z2
  simp only [Option.some.injEq, Prod.mk.injEq] at hG
  obtain ⟨rfl, rfl⟩ := hG
  have htree : exRound Tryz.prog C_Fj true (addL (firstId (loopAt Tryz.f151 1)) ann_l15Reduce_1 (addL (firstId (loopAt Tryz.f151 0)) ann_l15Reduce_0 noL)) Tryz.f151.ntmps ann_l15Reduce_0 (loopAt Tryz.f151 0) ⟨[.ptr 2 0, .ptr 3 0, .ptr 4 0], [.box [.int .i64 oa, .int .i64 ob]], [.int .i64 c5, .int .i64 c6, .int .i64 n], [[.int .i64 a, .int .i64 b], [.int .i64 z1, .int .i64 z2]]⟩ = .need ((((1 : Int) ≤ b ∧ b ≤ (1000000 : Int)) ∧ (-1000000000 : Int) ≤ a ∧ a ≤ (1000000000 : Int)) ∧ ((1 : Int) ≤ ob ∧ ob ≤ (1000000 : Int)) ∧ (-1000000000 : Int) ≤ oa ∧ oa ≤ (1000000000 : Int)) (.ite (decide ((0 : Int) ≤ cmpF a b oa ob)) (.ite ((divF a b oa ob).snd != (0 : Int)) (.leaf (.ret, ⟨[.ptr 2 0, .ptr 3 0, .ptr 4 0], [.box [.int .i64 (oa), .int .i64 (ob)]], [.int .i64 ((0 : Int)), .int .i64 ((2 : Int)), .int .i64 (n)], [[.int .i64 (a), .int .i64 (b)], [.int .i64 ((0 : Int)), .int .i64 ((0 : Int))]]⟩)) (.leaf (.normal, ⟨[.ptr 2 0, .ptr 3 0, .ptr 4 0], [.box [.int .i64 (oa), .int .i64 (ob)]], [.int .i64 (c5), .int .i64 (c6), .int .i64 (IntKind.i64.wrap (n + (1 : Int)))], [[.int .i64 ((divF a b oa ob).fst.fst), .int .i64 ((divF a b oa ob).fst.snd)], [.int .i64 (z1), .int .i64 (z2)]]⟩))) (.leaf ((.exit 0), ⟨[.ptr 2 0, .ptr 3 0, .ptr 4 0], [.box [.int .i64 (oa), .int .i64 (ob)]], [.int .i64 (c5), .int .i64 (c6), .int .i64 (n)], [[.int .i64 (a), .int .i64 (b)], [.int .i64 (z1), .int .i64 (z2)]]⟩))) := by kernel_rfl
  rw [htree]
  clear htree
  replace hp : PosF (a, b) ∧ OctF (oa, ob) := hp
  obtain ⟨hr, ho⟩ := hp
  have b1 := okF_bd hr.ok
  have b2 := okF_bd ho.ok
  have hs := dn_step ho hr n
  have hm := fun h => mD_dn hr ho h
  have hq := fun h => (div_pos hr ho h).1
  simp only [Tree.ok, tyd_inj, packAV, AV.same, AV.same.sameL, encV, encS, enc, inK, Nd.ok, List.headD_cons, List.cons_append, List.nil_append, List.append_nil, true_and, and_true, Bool.true_and, Bool.and_true, loop_next, weakBs_nil, weakBs_cons, weakB_self, weakB_row, weakB_int, weakL_nil, weakL_unk, weakL_guess, isRow_own, isRow_unk, weakL_int, weakL_bool, weakL_str, weakL_own, weakL_view, weakL_nilS, noRow_int, noRow_bool, own_inj, LTree.val, cond_true, cond_false, Prod.mk.injEq, List.cons.injEq, AV.int.injEq, AV.bool.injEq, AV.str.injEq, AV.agg.injEq, ann_l15Reduce_0, decide_eq_true_eq, decide_eq_false_iff_not, bne_iff_ne, ne_eq, bne_eq_false_iff_eq]
  rw [hs]
  clear hs
  simp only [cmpB] at *
  try simp only at hm hq b1 b2
  generalize divF a b oa ob = q at *
  obtain ⟨⟨q1, q2⟩, q3⟩ := q
  try simp only at hm hq ⊢
  refine ⟨⟨b1, b2⟩, fun h1 => ?_, fun h1 => ?_⟩
  · rw [if_pos h1]
    refine ⟨fun h2 => ?_, fun h2 => ?_⟩
    · rw [if_neg h2]
      simp [Tree.ok, tyd_inj, packAV, AV.same, AV.same.sameL, encV, encS, enc, inK, Nd.ok, List.headD_cons, List.cons_append, List.nil_append, List.append_nil, true_and, and_true, Bool.true_and, Bool.and_true, loop_next, weakBs_nil, weakBs_cons, weakB_self, weakB_row, weakB_int, weakL_nil, weakL_unk, weakL_guess, isRow_own, isRow_unk, weakL_int, weakL_bool, weakL_str, weakL_own, weakL_view, weakL_nilS, noRow_int, noRow_bool, own_inj, LTree.val, cond_true, cond_false, Prod.mk.injEq, List.cons.injEq, AV.int.injEq, AV.bool.injEq, AV.str.injEq, AV.agg.injEq]
    · rw [if_pos h2]
      have g1 := hm h2
      have g2 := hq h2
      repeat' first | apply And.intro | intro _
      all_goals first | omega | assumption | rfl | exact ⟨g2, ho⟩ | trivial
  · rw [if_neg h1]
    simp [Tree.ok, tyd_inj, packAV, AV.same, AV.same.sameL, encV, encS, enc, inK, Nd.ok, List.headD_cons, List.cons_append, List.nil_append, List.append_nil, true_and, and_true, Bool.true_and, Bool.and_true, loop_next, weakBs_nil, weakBs_cons, weakB_self, weakB_row, weakB_int, weakL_nil, weakL_unk, weakL_guess, isRow_own, isRow_unk, weakL_int, weakL_bool, weakL_str, weakL_own, weakL_view, weakL_nilS, noRow_int, noRow_bool, own_inj, LTree.val, cond_true, cond_false, Prod.mk.injEq, List.cons.injEq, AV.int.injEq, AV.bool.injEq, AV.str.injEq, AV.agg.injEq]
theorem loops_l15Reduce : ∀ c, Tryz.f151.body = some c → LoopsOk Tryz.prog (addL (firstId (loopAt Tryz.f151 1)) ann_l15Reduce_1 (addL (firstId (loopAt Tryz.f151 0)) ann_l15Reduce_0 noL)) Tryz.f151.ntmps c := loopsN fun i hi ann h => by
  have hn : loopN Tryz.f151 = 2 := by kernel_rfl
  rw [hn] at hi
  exact match i, hi, h with
    | 0, _, h => (Option.some.inj ((show (addL (firstId (loopAt Tryz.f151 1)) ann_l15Reduce_1 (addL (firstId (loopAt Tryz.f151 0)) ann_l15Reduce_0 noL)) (firstId (loopAt Tryz.f151 0)) = some ann_l15Reduce_0 from by kernel_rfl).symm.trans h)) ▸ loop_l15Reduce_0
    | 1, _, h => (Option.some.inj ((show (addL (firstId (loopAt Tryz.f151 1)) ann_l15Reduce_1 (addL (firstId (loopAt Tryz.f151 0)) ann_l15Reduce_0 noL)) (firstId (loopAt Tryz.f151 1)) = some ann_l15Reduce_1 from by kernel_rfl).symm.trans h)) ▸ loop_l15Reduce_1
set_option maxHeartbeats 1000000 in
theorem sat_l15Reduce : Sat Tryz.prog 151 ct_l15Reduce := by
  refine sat_typed (C := C_Fj) (L := (addL (firstId (loopAt Tryz.f151 1)) ann_l15Reduce_1 (addL (firstId (loopAt Tryz.f151 0)) ann_l15Reduce_0 noL))) (wr := true) mixedOk Tryz.func151 C_Fj_ok (loops_l15Reduce) (fun _ => by first | rfl | (simp [ownsOf, ownsOf.ownsL, enc, encV, encS])) fun x hp => ?_
  obtain ⟨(r : tFrac.den), (o : tFrac.den), _⟩ := x
  replace hp : PosF r ∧ OctF o := hp
  have htree : exFunc Tryz.prog C_Fj true (addL (firstId (loopAt Tryz.f151 1)) ann_l15Reduce_1 (addL (firstId (loopAt Tryz.f151 0)) ann_l15Reduce_0 noL)) Tryz.f151 (encA [.s tFrac, .s tFrac] (r, o, ())) = .need (PosF (r.fst, r.snd) ∧ OctF (o.fst, o.snd)) (.ite (decide ((dnF (o.fst, o.snd) (r.fst, r.snd) (0 : Int)).snd.snd = (0 : Int))) (.need (PosF ((dnF (o.fst, o.snd) (r.fst, r.snd) (0 : Int)).fst.fst, (dnF (o.fst, o.snd) (r.fst, r.snd) (0 : Int)).fst.snd) ∧ OctF (o.fst, o.snd)) (.ite (decide ((upF (o.fst, o.snd) ((dnF (o.fst, o.snd) (r.fst, r.snd) (0 : Int)).fst.fst, (dnF (o.fst, o.snd) (r.fst, r.snd) (0 : Int)).fst.snd) (dnF (o.fst, o.snd) (r.fst, r.snd) (0 : Int)).snd.fst).snd.snd = (0 : Int))) (.leaf [.agg [.int .i64 ((upF (o.fst, o.snd) ((dnF (o.fst, o.snd) (r.fst, r.snd) (0 : Int)).fst.fst, (dnF (o.fst, o.snd) (r.fst, r.snd) (0 : Int)).fst.snd) (dnF (o.fst, o.snd) (r.fst, r.snd) (0 : Int)).snd.fst).fst.fst), .int .i64 ((upF (o.fst, o.snd) ((dnF (o.fst, o.snd) (r.fst, r.snd) (0 : Int)).fst.fst, (dnF (o.fst, o.snd) (r.fst, r.snd) (0 : Int)).fst.snd) (dnF (o.fst, o.snd) (r.fst, r.snd) (0 : Int)).snd.fst).fst.snd)], .int .i64 ((upF (o.fst, o.snd) ((dnF (o.fst, o.snd) (r.fst, r.snd) (0 : Int)).fst.fst, (dnF (o.fst, o.snd) (r.fst, r.snd) (0 : Int)).fst.snd) (dnF (o.fst, o.snd) (r.fst, r.snd) (0 : Int)).snd.fst).snd.fst), .int .i64 ((0 : Int))]) (.leaf [.agg [.int .i64 ((0 : Int)), .int .i64 ((0 : Int))], .int .i64 ((0 : Int)), .int .i64 ((2 : Int))]))) (.leaf [.agg [.int .i64 ((0 : Int)), .int .i64 ((0 : Int))], .int .i64 ((0 : Int)), .int .i64 ((2 : Int))])) := by kernel_rfl
  refine (congrArg (Tree.ok _) htree).mpr ?_
  clear htree
  have eta : ∀ x : Fr, (x.1, x.2) = x := fun _ => rfl
  obtain ⟨hr, ho⟩ := hp
  have hd := dn_spec ho hr 0
  simp only [Tree.ok, tyd_inj, packAV, AV.same, AV.same.sameL, encV, encS, enc, inK, Nd.ok, List.headD_cons, List.cons_append, List.nil_append, List.append_nil, true_and, and_true, Bool.true_and, Bool.and_true, eta, redF, decide_eq_true_eq, decide_eq_false_iff_not]
  rcases hd with ⟨h1, h2, h3⟩ | ⟨h1, h2⟩
  · have hu := up_spec ho h2 (dnF o r 0).2.1 h3
    simp only [if_pos h1, eta]
    refine ⟨⟨hr, ho⟩, fun _ => ⟨⟨h2, ho⟩, ?_⟩, fun h => absurd h1 h⟩
    generalize upF o (dnF o r 0).1 (dnF o r 0).2.1 = u at *
    rcases hu with ⟨h4, h5⟩ | ⟨h4, h5⟩
    · simp [h4]
    · simp [h4]
  · have h0 : ¬ (dnF o r 0).2.2 = 0 := by omega
    simp only [if_neg h0]
    refine ⟨⟨hr, ho⟩, fun h => absurd h h0, fun _ => ?_⟩
    simp
def C_Ra_1 : FuncId → Option Ct := addC 151 ct_l15Reduce C_Fj
theorem C_Ra_1_ok : COk Tryz.prog C_Ra_1 := addC_ok C_Fj_ok sat_l15Reduce

def C_Ra : FuncId → Option Ct := C_Ra_1
theorem C_Ra_ok : COk Tryz.prog C_Ra := C_Ra_1_ok
end Go.Proofs.YtkeckmdmmbeaiaaGreatDoor
