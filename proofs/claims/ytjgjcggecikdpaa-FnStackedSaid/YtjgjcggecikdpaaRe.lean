/- Contracts: a stacked tuning of the program. Conditions: as each says. -/
import Derived.Test.YtjgjcggecikdpaaRb
import Derived.Test.YtjgjcggecikdpaaSrf
set_option linter.unusedSimpArgs false
set_option linter.unusedVariables false
namespace Go.Proofs.Ytjgjcggecikdpaa
open Go.RowKit Sx
set_option maxRecDepth 100000
set_option maxHeartbeats 1000000
theorem ltFr_true {x y : Fr} : ltFr x y = true ↔ cmpB x y < 0 := by unfold ltFr; exact decide_eq_true_iff
theorem ltFr_false {x y : Fr} : ltFr x y = false ↔ ¬ cmpB x y < 0 := by rw [← ltFr_true, Bool.not_eq_true]
theorem cmpB_swap {x y : Fr} : 0 < cmpB y x ↔ cmpB x y < 0 := by rw [cmpB_gt, cmpB_lt]
theorem putR_cons (x y : Fr) (l : List Fr) : putR x (y :: l) = if 0 < cmpB y x then x :: y :: l else y :: putR x l := by
  unfold putR
  rw [putGo]
  by_cases h : 0 < cmpB y x
  · rw [if_pos ⟨rfl, h⟩, if_pos h, putGo_true]
    simp
  · rw [if_neg (fun g => h g.2), if_neg h]
    rfl
theorem putR_perm (x : Fr) : ∀ l : List Fr, (putR x l).Perm (x :: l)
  | [] => .refl _
  | y :: l => by
    rw [putR_cons]
    split
    · exact .refl _
    · exact (List.Perm.cons y (putR_perm x l)).trans (.swap x y l)
theorem putR_srt {x : Fr} (hx : okF x.1 x.2 = true) : ∀ {l : List Fr}, (∀ z ∈ l, okF z.1 z.2 = true) → Srt ltFr l → Srt ltFr (putR x l)
  | [], _, _ => List.pairwise_singleton _ _
  | y :: l, ho, hs => by
    have hy := ho y (by simp)
    have hl : ∀ z ∈ l, okF z.1 z.2 = true := fun z hz => ho z (by simp [hz])
    obtain ⟨h1, h2⟩ := List.pairwise_cons.1 hs
    rw [putR_cons]
    split
    · rename_i hc
      refine List.pairwise_cons.2 ⟨fun z hz => ?_, hs⟩
      have lt : ltFr x y = true := ltFr_true.2 (cmpB_swap.1 hc)
      have a1 := swoFr.asym x y hx hy lt
      rcases List.mem_cons.1 hz with rfl | hz'
      · exact a1
      · exact swoFr.ntrans z y x (hl z hz') hy hx (h1 z hz') a1
    · rename_i hc
      refine List.pairwise_cons.2 ⟨fun z hz => ?_, putR_srt hx hl h2⟩
      rcases List.mem_cons.1 ((putR_perm x l).subset hz) with rfl | hz'
      · exact ltFr_false.2 fun g => hc (cmpB_swap.2 g)
      · exact h1 z hz'
/-- Sorted permutations of valid fractions are alike. -/
theorem sort_uniq {l l' : List Fr} (hp : l.Perm l') (ho : ∀ z ∈ l, okF z.1 z.2 = true) (hs : Srt ltFr l) : l = sortFr l' := by
  have ho' : ∀ z ∈ l', okF z.1 z.2 = true := fun z hz => ho z (hp.symm.subset hz)
  refine List.Perm.eq_of_pairwise (le := fun x y => ltFr y x = false) (fun a b m1 m2 g1 g2 => ?_) hs (sorted_srt swoFr ho') (hp.trans srtF_perm.symm)
  have oa := ho a m1
  have ob := ho' b (srtF_perm.subset m2)
  rw [ltFr_false, qF_le (okF_den ob).2 (okF_den oa).2] at g1
  rw [ltFr_false, qF_le (okF_den oa).2 (okF_den ob).2] at g2
  exact qF_inj oa ob (by grind)
theorem okFs_iff {l : List tFrac.den} : okFs l = true ↔ ∀ z ∈ l, okF z.1 z.2 = true := by unfold okFs; exact List.all_eq_true
theorem sortFr_ok {l : List tFrac.den} (h : okFs l = true) : okFs (sortFr l) = true := okFs_iff.2 fun z hz => okFs_iff.1 h z (srtF_perm.subset hz)
theorem put_sort {x : Fr} {l : List Fr} (hx : okF x.1 x.2 = true) (ho : okFs l = true) : putR x (sortFr l) = sortFr (l ++ [x]) := by
  have h := okFs_iff.1 ho
  have h' := okFs_iff.1 (sortFr_ok ho)
  have p : (putR x (sortFr l)).Perm (l ++ [x]) := (putR_perm x _).trans ((List.Perm.cons x srtF_perm).trans (List.perm_append_comm (l₁ := [x])))
  refine sort_uniq p (fun z hz => ?_) (putR_srt hx h' (sorted_srt swoFr h))
  rcases List.mem_cons.1 ((putR_perm x _).subset hz) with rfl | g
  · exact hx
  · exact h' z g
theorem mulF_comm (a b c d : Int) : mulF a b c d = mulF c d a b := by
  unfold mulF
  rw [Int.mul_comm a c, Int.mul_comm b d, Bool.and_comm]
/-- The ratios in the order in which they are made. -/
def imGo (o g : Fr) : Nat → Fr → List Fr → List Fr × Int
  | 0, l, rs => (rs ++ [l], 0)
  | k + 1, l, rs => if (mulF g.1 g.2 l.1 l.2).2 = 0 then (if (redF (mulF g.1 g.2 l.1 l.2).1 o).2.2 = 0 then imGo o g k (redF (mulF g.1 g.2 l.1 l.2).1 o).1 (rs ++ [l]) else ([], 2)) else ([], 2)
theorem okFs_snoc {l : List tFrac.den} {x : Fr} (h : okFs l = true) (hx : okF x.1 x.2 = true) : okFs (l ++ [x]) = true := by
  refine okFs_iff.2 fun z hz => ?_
  rcases List.mem_append.1 hz with g | g
  · exact okFs_iff.1 h z g
  · rw [List.mem_singleton.1 g]; exact hx
theorem imGo_ok {o g : Fr} (ho : OctF o) (hg : PosF g) : ∀ (k : Nat) (l : Fr) (rs : List tFrac.den), PosF l → okFs rs = true →
    okFs (imGo o g k l rs).1 = true ∧ ((imGo o g k l rs).2 = 0 → (imGo o g k l rs).1.length = rs.length + 1 + k) ∧ stGo o g k l (sortFr (rs ++ [l])) = (sortFr (imGo o g k l rs).1, (imGo o g k l rs).2)
  | 0, l, rs, hl, hr => ⟨okFs_snoc hr hl.ok, fun _ => by simp [imGo], rfl⟩
  | k + 1, l, rs, hl, hr => by
    unfold imGo stGo
    rw [mulF_comm l.1 l.2 g.1 g.2]
    split
    · rename_i hc
      have hp := mul_posG hg hl hc
      rcases red_spec ho hp with ⟨e, hP, _⟩ | ⟨e, _⟩
      · rw [if_pos e, if_pos e, put_sort hP.ok (okFs_snoc hr hl.ok)]
        obtain ⟨i1, i2, i3⟩ := imGo_ok ho hg k _ (rs ++ [l]) hP (okFs_snoc hr hl.ok)
        refine ⟨i1, fun h => ?_, i3⟩
        rw [i2 h, List.length_append]
        simp only [List.length_cons, List.length_nil]
        omega
      · have e' : ¬ (redF (mulF g.1 g.2 l.1 l.2).1 o).2.2 = 0 := by omega
        rw [if_neg e', if_neg e']
        exact ⟨rfl, fun h => by simp at h, rfl⟩
    · exact ⟨rfl, fun h => by simp at h, rfl⟩
def C_ReB : FuncId → Option Ct := addC 129 ct_sortF C_Rb
theorem C_ReB_ok : COk Try.prog C_ReB := addC_ok C_Rb_ok sat_sortF
def ann_iStack_0 : LAnn := { sameS := [3, 5, 6, 8, 10, 11], modS := [9], sameH := [5, 6], modH := [8, 10, 11], base := 900000, nilE := [], nilB := [⟨10, 4, 800000, tFrac⟩], G := fun
  | ⟨[.int .i64 n, .ptr 5 0, .ptr 6 0, .ptr 8 0, .ptr 10 0, .ptr 11 0], [.box [.int .i64 o1, .int .i64 o2], .box [.int .i64 g1, .int .i64 g2]], [.int .i64 c], [[.int .i64 z1, .int .i64 z2, .int .i64 z3, .int .i64 z4, .nilS], [.int .i64 b1, .int .i64 b2, .int .i64 p1, .int .i64 p2, .own (.pair (.int .i64) (.int .i64)) rs], [.int .i64 l1, .int .i64 l2]]⟩ => some (.p ((rs.length : Int) < n ∧ n ≤ 24 ∧ PosF (l1, l2) ∧ PosF (g1, g2) ∧ OctF (o1, o2) ∧ okFs rs = true), .ite (decide ((imGo (o1, o2) (g1, g2) (n.toNat - 1 - rs.length) (l1, l2) rs).2 = 0)) (.leaf (.exit 0) [.int .i64 c] [[.int .i64 z1, .int .i64 z2, .int .i64 z3, .int .i64 z4, .nilS], [.int .i64 b1, .int .i64 b2, .int .i64 p1, .int .i64 p2, .own tFrac (imGo (o1, o2) (g1, g2) (n.toNat - 1 - rs.length) (l1, l2) rs).1], [.unk, .unk]]) (.leaf .ret [.int .i64 2] [[.int .i64 0, .int .i64 0, .int .i64 0, .int .i64 0, .nilS], [.unk, .unk, .unk, .unk, .guess True], [.unk, .unk]]))
  | _ => none }
def ct_iStack : Ct := ctOf [.s tFrac, .s tFrac, .s tFrac, .v (.int .i64)] (fun _ => .tt) (fun ((b : tFrac.den), (o : tFrac.den), (g : tFrac.den), (n : Int), _) => .tup [.agg [.int .i64 (stackF b o g n).1.1.1, .int .i64 (stackF b o g n).1.1.2, .int .i64 (stackF b o g n).1.2.1.1, .int .i64 (stackF b o g n).1.2.1.2, .own tFrac (stackF b o g n).1.2.2], .int .i64 (stackF b o g n).2])
set_option maxHeartbeats 1000000 in
theorem loop_iStack_0 : LoopSat Try.prog Try.f48.ntmps (loopAt Try.f48 0) ann_iStack_0 := by
  refine loopSat_of (C := C_ReB) (L := (addL (firstId (loopAt Try.f48 0)) ann_iStack_0 noL)) (wr := false) mixedOk C_ReB_ok (loopsIn0 (by kernel_rfl)) (fun d => match d.same, d.boxes with | [.int _ n, _, _, _, _, _], [_, [_, _, _, _, .own _ rs], _] => (n - (rs.length : Int)).toNat | _, _ => 0) fun d p t hG hp => ?_
  simp only [ann_iStack_0] at hG
  split at hG
  rotate_left
  · simp at hG
  rename_i n o1 o2 g1 g2 c z1 z2 z3 z4 b1 b2 p1 p2 rs l1 l2
  simp only [Option.some.injEq, Prod.mk.injEq] at hG
  obtain ⟨rfl, rfl⟩ := hG
  have htree : exRound Try.prog C_ReB false (addL (firstId (loopAt Try.f48 0)) ann_iStack_0 noL) Try.f48.ntmps ann_iStack_0 (loopAt Try.f48 0) ⟨[.int .i64 n, .ptr 5 0, .ptr 6 0, .ptr 8 0, .ptr 10 0, .ptr 11 0], [.box [.int .i64 o1, .int .i64 o2], .box [.int .i64 g1, .int .i64 g2]], [.int .i64 c], [[.int .i64 z1, .int .i64 z2, .int .i64 z3, .int .i64 z4, .nilS], [.int .i64 b1, .int .i64 b2, .int .i64 p1, .int .i64 p2, .own tFrac rs], [.int .i64 l1, .int .i64 l2]]⟩ = .need (rs.length + [(l1, l2)].length ≤ (16777216 : Nat)) (.need ((↑(rs ++ [(l1, l2)]).length : Int) ≤ (9223372036854775807 : Int)) (.ite ((↑(rs ++ [(l1, l2)]).length : Int) == n) (.leaf ((.exit 0), ⟨[.int .i64 (n), .ptr 5 0, .ptr 6 0, .ptr 8 0, .ptr 10 0, .ptr 11 0], [.box [.int .i64 (o1), .int .i64 (o2)], .box [.int .i64 (g1), .int .i64 (g2)]], [.int .i64 (c)], [[.int .i64 (z1), .int .i64 (z2), .int .i64 (z3), .int .i64 (z4), .nilS], [.int .i64 (b1), .int .i64 (b2), .int .i64 (p1), .int .i64 (p2), .own (I64.pair I64) (rs ++ [(l1, l2)])], [.int .i64 (l1), .int .i64 (l2)]]⟩)) (.ite ((mulF g1 g2 l1 l2).snd == (0 : Int)) (.need (PosF ((mulF g1 g2 l1 l2).fst.fst, (mulF g1 g2 l1 l2).fst.snd) ∧ OctF (o1, o2)) (.ite ((redF ((mulF g1 g2 l1 l2).fst.fst, (mulF g1 g2 l1 l2).fst.snd) (o1, o2)).snd.snd != (0 : Int)) (.leaf (.ret, ⟨[.int .i64 (n), .ptr 5 0, .ptr 6 0, .ptr 8 0, .ptr 10 0, .ptr 11 0], [.box [.int .i64 (o1), .int .i64 (o2)], .box [.int .i64 (g1), .int .i64 (g2)]], [.int .i64 ((redF ((mulF g1 g2 l1 l2).fst.fst, (mulF g1 g2 l1 l2).fst.snd) (o1, o2)).snd.snd)], [[.int .i64 ((0 : Int)), .int .i64 ((0 : Int)), .int .i64 ((0 : Int)), .int .i64 ((0 : Int)), .nilS], [.int .i64 (b1), .int .i64 (b2), .int .i64 (p1), .int .i64 (p2), .own (I64.pair I64) (rs ++ [(l1, l2)])], [.int .i64 ((redF ((mulF g1 g2 l1 l2).fst.fst, (mulF g1 g2 l1 l2).fst.snd) (o1, o2)).fst.fst), .int .i64 ((redF ((mulF g1 g2 l1 l2).fst.fst, (mulF g1 g2 l1 l2).fst.snd) (o1, o2)).fst.snd)]]⟩)) (.leaf (.normal, ⟨[.int .i64 (n), .ptr 5 0, .ptr 6 0, .ptr 8 0, .ptr 10 0, .ptr 11 0], [.box [.int .i64 (o1), .int .i64 (o2)], .box [.int .i64 (g1), .int .i64 (g2)]], [.int .i64 (c)], [[.int .i64 (z1), .int .i64 (z2), .int .i64 (z3), .int .i64 (z4), .nilS], [.int .i64 (b1), .int .i64 (b2), .int .i64 (p1), .int .i64 (p2), .own (I64.pair I64) (rs ++ [(l1, l2)])], [.int .i64 ((redF ((mulF g1 g2 l1 l2).fst.fst, (mulF g1 g2 l1 l2).fst.snd) (o1, o2)).fst.fst), .int .i64 ((redF ((mulF g1 g2 l1 l2).fst.fst, (mulF g1 g2 l1 l2).fst.snd) (o1, o2)).fst.snd)]]⟩)))) (.ite ((mulF g1 g2 l1 l2).snd != (0 : Int)) (.leaf (.ret, ⟨[.int .i64 (n), .ptr 5 0, .ptr 6 0, .ptr 8 0, .ptr 10 0, .ptr 11 0], [.box [.int .i64 (o1), .int .i64 (o2)], .box [.int .i64 (g1), .int .i64 (g2)]], [.int .i64 ((mulF g1 g2 l1 l2).snd)], [[.int .i64 ((0 : Int)), .int .i64 ((0 : Int)), .int .i64 ((0 : Int)), .int .i64 ((0 : Int)), .nilS], [.int .i64 (b1), .int .i64 (b2), .int .i64 (p1), .int .i64 (p2), .own (I64.pair I64) (rs ++ [(l1, l2)])], [.int .i64 (l1), .int .i64 (l2)]]⟩)) (.leaf (.normal, ⟨[.int .i64 (n), .ptr 5 0, .ptr 6 0, .ptr 8 0, .ptr 10 0, .ptr 11 0], [.box [.int .i64 (o1), .int .i64 (o2)], .box [.int .i64 (g1), .int .i64 (g2)]], [.int .i64 (c)], [[.int .i64 (z1), .int .i64 (z2), .int .i64 (z3), .int .i64 (z4), .nilS], [.int .i64 (b1), .int .i64 (b2), .int .i64 (p1), .int .i64 (p2), .own (I64.pair I64) (rs ++ [(l1, l2)])], [.int .i64 (l1), .int .i64 (l2)]]⟩)))))) := by kernel_rfl
  rw [htree]
  clear htree
  replace hp : (rs.length : Int) < n ∧ n ≤ 24 ∧ PosF (l1, l2) ∧ PosF (g1, g2) ∧ OctF (o1, o2) ∧ okFs rs = true := hp
  obtain ⟨hk, hn, hl, hg, ho, hs⟩ := hp
  have eta : ∀ z : Fr, (z.1, z.2) = z := fun _ => rfl
  have hm := mulF_ok hg.ok hl.ok
  have hmp := fun h => mul_posG hg hl h
  have hso := okFs_snoc hs hl.ok
  simp only [Tree.ok, tyd_inj, packAV, AV.same, AV.same.sameL, encV, encS, enc, inK, Nd.ok, List.headD_cons, List.cons_append, List.nil_append, List.append_nil, true_and, and_true, Bool.true_and, Bool.and_true, loop_next, weakBs_nil, weakBs_cons, weakB_self, weakB_row, weakB_int, weakL_nil, weakL_unk, weakL_guess, isRow_own, isRow_unk, weakL_int, weakL_bool, weakL_str, weakL_own, weakL_view, weakL_nilS, noRow_int, noRow_bool, own_inj, LTree.val, cond_true, cond_false, Prod.mk.injEq, List.cons.injEq, AV.int.injEq, AV.bool.injEq, AV.str.injEq, AV.agg.injEq, ann_iStack_0, eta, decide_eq_true_eq, decide_eq_false_iff_not, bne_iff_ne, ne_eq, bne_eq_false_iff_eq, beq_iff_eq, beq_eq_false_iff_ne, List.length_append, List.length_cons, List.length_nil]
  refine ⟨by omega, by omega, fun ha => ?_, fun ha => ?_⟩
  · rw [show n.toNat - 1 - rs.length = 0 by omega]
    simp [Tree.ok, tyd_inj, packAV, AV.same, AV.same.sameL, encV, encS, enc, inK, Nd.ok, List.headD_cons, List.cons_append, List.nil_append, List.append_nil, true_and, and_true, Bool.true_and, Bool.and_true, loop_next, weakBs_nil, weakBs_cons, weakB_self, weakB_row, weakB_int, weakL_nil, weakL_unk, weakL_guess, isRow_own, isRow_unk, weakL_int, weakL_bool, weakL_str, weakL_own, weakL_view, weakL_nilS, noRow_int, noRow_bool, own_inj, LTree.val, cond_true, cond_false, Prod.mk.injEq, List.cons.injEq, AV.int.injEq, AV.bool.injEq, AV.str.injEq, AV.agg.injEq, imGo]
  · have hS : imGo (o1, o2) (g1, g2) (n.toNat - 1 - rs.length) (l1, l2) rs = if (mulF g1 g2 l1 l2).2 = 0 then (if (redF (mulF g1 g2 l1 l2).1 (o1, o2)).2.2 = 0 then imGo (o1, o2) (g1, g2) (n.toNat - 1 - (rs.length + 1)) (redF (mulF g1 g2 l1 l2).1 (o1, o2)).1 (rs ++ [(l1, l2)]) else ([], 2)) else ([], 2) := by
      rw [show n.toNat - 1 - rs.length = (n.toNat - 1 - (rs.length + 1)) + 1 by omega]; rfl
    rw [hS]
    clear hS
    simp only at hm hmp
    generalize mulF g1 g2 l1 l2 = q at *
    by_cases hq : q.2 = 0
    · have hq1 := hmp hq
      have hred := red_spec ho hq1
      simp only [if_pos hq]
      generalize redF q.1 (o1, o2) = r at *
      rcases hred with ⟨e, hP, _⟩ | ⟨e, _⟩
      · simp only [if_pos e]
        refine ⟨fun _ => ⟨⟨hq1, ho⟩, fun h => absurd e h, fun _ => ⟨?_, ⟨by omega, by omega, hP, hg, ho, hso⟩, ?_⟩⟩, fun h => absurd hq h⟩
        · first | trivial | (simp [Tree.ok, tyd_inj, packAV, AV.same, AV.same.sameL, encV, encS, enc, inK, Nd.ok, List.headD_cons, List.cons_append, List.nil_append, List.append_nil, true_and, and_true, Bool.true_and, Bool.and_true, loop_next, weakBs_nil, weakBs_cons, weakB_self, weakB_row, weakB_int, weakL_nil, weakL_unk, weakL_guess, isRow_own, isRow_unk, weakL_int, weakL_bool, weakL_str, weakL_own, weakL_view, weakL_nilS, noRow_int, noRow_bool, own_inj, LTree.val, cond_true, cond_false, Prod.mk.injEq, List.cons.injEq, AV.int.injEq, AV.bool.injEq, AV.str.injEq, AV.agg.injEq]; done) | omega | (trace_state; fail)
        · first | trivial | (simp [Tree.ok, tyd_inj, packAV, AV.same, AV.same.sameL, encV, encS, enc, inK, Nd.ok, List.headD_cons, List.cons_append, List.nil_append, List.append_nil, true_and, and_true, Bool.true_and, Bool.and_true, loop_next, weakBs_nil, weakBs_cons, weakB_self, weakB_row, weakB_int, weakL_nil, weakL_unk, weakL_guess, isRow_own, isRow_unk, weakL_int, weakL_bool, weakL_str, weakL_own, weakL_view, weakL_nilS, noRow_int, noRow_bool, own_inj, LTree.val, cond_true, cond_false, Prod.mk.injEq, List.cons.injEq, AV.int.injEq, AV.bool.injEq, AV.str.injEq, AV.agg.injEq]; done) | omega | (trace_state; fail)
      · have e' : ¬ r.2.2 = 0 := by omega
        simp only [if_neg e']
        refine ⟨fun _ => ⟨⟨hq1, ho⟩, fun _ => ?_, fun h => absurd h e'⟩, fun h => absurd hq h⟩
        simp [Tree.ok, tyd_inj, packAV, AV.same, AV.same.sameL, encV, encS, enc, inK, Nd.ok, List.headD_cons, List.cons_append, List.nil_append, List.append_nil, true_and, and_true, Bool.true_and, Bool.and_true, loop_next, weakBs_nil, weakBs_cons, weakB_self, weakB_row, weakB_int, weakL_nil, weakL_unk, weakL_guess, isRow_own, isRow_unk, weakL_int, weakL_bool, weakL_str, weakL_own, weakL_view, weakL_nilS, noRow_int, noRow_bool, own_inj, LTree.val, cond_true, cond_false, Prod.mk.injEq, List.cons.injEq, AV.int.injEq, AV.bool.injEq, AV.str.injEq, AV.agg.injEq, e]
    · have hq2 := (hm.resolve_left (fun h => hq h.1)).1
      simp only [if_neg hq]
      refine ⟨fun h => absurd h hq, fun _ => ⟨fun _ => ?_, fun h => absurd h hq⟩⟩
      simp [Tree.ok, tyd_inj, packAV, AV.same, AV.same.sameL, encV, encS, enc, inK, Nd.ok, List.headD_cons, List.cons_append, List.nil_append, List.append_nil, true_and, and_true, Bool.true_and, Bool.and_true, loop_next, weakBs_nil, weakBs_cons, weakB_self, weakB_row, weakB_int, weakL_nil, weakL_unk, weakL_guess, isRow_own, isRow_unk, weakL_int, weakL_bool, weakL_str, weakL_own, weakL_view, weakL_nilS, noRow_int, noRow_bool, own_inj, LTree.val, cond_true, cond_false, Prod.mk.injEq, List.cons.injEq, AV.int.injEq, AV.bool.injEq, AV.str.injEq, AV.agg.injEq, hq2]
theorem loops_iStack : ∀ c, Try.f48.body = some c → LoopsOk Try.prog (addL (firstId (loopAt Try.f48 0)) ann_iStack_0 noL) Try.f48.ntmps c := loopsN fun i hi ann h => by
  have hn : loopN Try.f48 = 1 := by kernel_rfl
  rw [hn] at hi
  exact match i, hi, h with
    | 0, _, h => (Option.some.inj ((show (addL (firstId (loopAt Try.f48 0)) ann_iStack_0 noL) (firstId (loopAt Try.f48 0)) = some ann_iStack_0 from by kernel_rfl).symm.trans h)) ▸ loop_iStack_0
set_option maxHeartbeats 1000000 in
theorem sat_iStack : Sat Try.prog 48 ct_iStack := by
  refine sat_typed (C := C_ReB) (L := (addL (firstId (loopAt Try.f48 0)) ann_iStack_0 noL)) (wr := false) mixedOk Try.func48 C_ReB_ok (loops_iStack) (fun _ => by first | rfl | (simp [ownsOf, ownsOf.ownsL, enc, encV, encS])) fun x hp => ?_
  obtain ⟨(b : tFrac.den), (o : tFrac.den), (g : tFrac.den), (n : Int), _⟩ := x
  clear hp
  have htree : exFunc Try.prog C_ReB false (addL (firstId (loopAt Try.f48 0)) ann_iStack_0 noL) Try.f48 (encA [.s tFrac, .s tFrac, .s tFrac, .v (.int .i64)] (b, o, g, n, ())) = .need ((↑[(b.fst, b.snd), (o.fst, o.snd), (g.fst, g.snd)].length : Int) ≤ (9223372036854775807 : Int)) (.ite (!okFs [(b.fst, b.snd), (o.fst, o.snd), (g.fst, g.snd)]) (.leaf [.agg [.int .i64 ((0 : Int)), .int .i64 ((0 : Int)), .int .i64 ((0 : Int)), .int .i64 ((0 : Int)), .nilS], .int .i64 ((1 : Int))]) (.ite (decide (b.fst ≤ (0 : Int))) (.leaf [.agg [.int .i64 ((0 : Int)), .int .i64 ((0 : Int)), .int .i64 ((0 : Int)), .int .i64 ((0 : Int)), .nilS], .int .i64 ((2 : Int))]) (.ite (decide (g.fst ≤ (0 : Int))) (.leaf [.agg [.int .i64 ((0 : Int)), .int .i64 ((0 : Int)), .int .i64 ((0 : Int)), .int .i64 ((0 : Int)), .nilS], .int .i64 ((2 : Int))]) (.need ((((1 : Int) ≤ o.snd ∧ o.snd ≤ (1000000 : Int)) ∧ (-1000000000 : Int) ≤ o.fst ∧ o.fst ≤ (1000000000 : Int)) ∧ ((1 : Int) ≤ (1 : Int) ∧ (1 : Int) ≤ (1000000 : Int)) ∧ (-1000000000 : Int) ≤ (1 : Int) ∧ (1 : Int) ≤ (1000000000 : Int)) (.ite (decide (cmpF o.fst o.snd (1 : Int) (1 : Int) ≤ (0 : Int))) (.leaf [.agg [.int .i64 ((0 : Int)), .int .i64 ((0 : Int)), .int .i64 ((0 : Int)), .int .i64 ((0 : Int)), .nilS], .int .i64 ((2 : Int))]) (.ite (!inB n (1 : Int) (24 : Int)) (.leaf [.agg [.int .i64 ((0 : Int)), .int .i64 ((0 : Int)), .int .i64 ((0 : Int)), .int .i64 ((0 : Int)), .nilS], .int .i64 ((2 : Int))]) (.need ((↑(0 : Nat) : Int) < n ∧ n ≤ (24 : Int) ∧ PosF ((1 : Int), (1 : Int)) ∧ PosF (g.fst, g.snd) ∧ OctF (o.fst, o.snd) ∧ okFs [] = true) (.ite (decide ((imGo (o.fst, o.snd) (g.fst, g.snd) (n.toNat - (1 : Nat) - (0 : Nat)) ((1 : Int), (1 : Int)) []).snd = (0 : Int))) (.need (okFs (imGo (o.fst, o.snd) (g.fst, g.snd) (n.toNat - (1 : Nat) - (0 : Nat)) ((1 : Int), (1 : Int)) []).fst = true ∧ (1 : Nat) ≤ (imGo (o.fst, o.snd) (g.fst, g.snd) (n.toNat - (1 : Nat) - (0 : Nat)) ((1 : Int), (1 : Int)) []).fst.length ∧ (imGo (o.fst, o.snd) (g.fst, g.snd) (n.toNat - (1 : Nat) - (0 : Nat)) ((1 : Int), (1 : Int)) []).fst.length ≤ (1000 : Nat)) (.need ((↑(sortFr (imGo (o.fst, o.snd) (g.fst, g.snd) (n.toNat - (1 : Nat) - (0 : Nat)) ((1 : Int), (1 : Int)) []).fst).length : Int) ≤ (9223372036854775807 : Int)) (.ite (!tuneF ((b.fst, b.snd), (o.fst, o.snd), sortFr (imGo (o.fst, o.snd) (g.fst, g.snd) (n.toNat - (1 : Nat) - (0 : Nat)) ((1 : Int), (1 : Int)) []).fst)) (.leaf [.agg [.int .i64 ((0 : Int)), .int .i64 ((0 : Int)), .int .i64 ((0 : Int)), .int .i64 ((0 : Int)), .nilS], .int .i64 ((4 : Int))]) (.leaf [.agg [.int .i64 (b.fst), .int .i64 (b.snd), .int .i64 (o.fst), .int .i64 (o.snd), .own (I64.pair I64) (sortFr (imGo (o.fst, o.snd) (g.fst, g.snd) (n.toNat - (1 : Nat) - (0 : Nat)) ((1 : Int), (1 : Int)) []).fst)], .int .i64 ((0 : Int))])))) (.leaf [.agg [.int .i64 ((0 : Int)), .int .i64 ((0 : Int)), .int .i64 ((0 : Int)), .int .i64 ((0 : Int)), .nilS], .int .i64 ((2 : Int))]))))))))) := by kernel_rfl
  refine (congrArg (Tree.ok _) htree).mpr ?_
  clear htree
  have eta : ∀ z : Fr, (z.1, z.2) = z := fun _ => rfl
  have eF : okFs [b, o, g] = (okF b.1 b.2 && (okF o.1 o.2 && okF g.1 g.2)) := by unfold okFs; simp [Bool.and_assoc]
  simp only [Tree.ok, tyd_inj, packAV, AV.same, AV.same.sameL, encV, encS, enc, inK, Nd.ok, List.headD_cons, List.cons_append, List.nil_append, List.append_nil, true_and, and_true, Bool.true_and, Bool.and_true, stackF, eta, eF, decide_eq_true_eq, decide_eq_false_iff_not, List.length_cons, List.length_nil]
  cases h1 : okF b.1 b.2
  · simp [noT]
  cases h2 : okF o.1 o.2
  · simp [noT]
  cases h3 : okF g.1 g.2
  · simp [noT]
  have b2 := okF_bd h2
  simp only [Bool.and_self, Bool.not_true, Bool.false_eq_true, false_implies, true_implies, and_self, if_true]
  refine ⟨by omega, ?_⟩
  by_cases h4 : (b.1 : Int) ≤ 0
  · simp [h4, noT]
  by_cases h5 : (g.1 : Int) ≤ 0
  · simp [h4, h5, noT]
  by_cases h6 : cmpB o (1, 1) ≤ 0
  · have h6' : cmpF o.1 o.2 1 1 ≤ 0 := h6
    simp [h4, h5, h6, h6', noT]
    try omega
  have h6' : ¬ cmpF o.1 o.2 1 1 ≤ 0 := h6
  cases h7 : inB n 1 24
  · simp [h4, h5, h6, h6', noT]
    try exact ⟨b2, by decide, by decide⟩
    try omega
  have hn := (inB_iff n 1 24).1 h7
  have h8 : ¬ ((b.1 : Int) ≤ 0 ∨ (g.1 : Int) ≤ 0 ∨ cmpB o (1, 1) ≤ 0 ∨ true = false) := by simp [h4, h5, h6]
  have hg : PosF g := ⟨h3, Int.not_le.1 h5⟩
  have ho : OctF o := ⟨h2, by omega⟩
  have hone : PosF (1, 1) := ⟨by decide, by decide⟩
  have hI := imGo_ok ho hg (n.toNat - 1) (1, 1) [] hone rfl
  have e1 : sortFr ([] ++ [(1, 1)]) = [(1, 1)] := rfl
  rw [e1] at hI
  have e2 : (n - 1).toNat = n.toNat - 1 := by omega
  simp only [if_neg h8, h4, h5, h6', false_implies, not_false_eq_true, true_implies, Bool.not_true, Bool.false_eq_true, Nat.sub_zero, e2]
  obtain ⟨i1, i2, i3⟩ := hI
  simp only [i3]
  have sl : ∀ l : List Fr, (sortFr l).length = l.length := fun l => srt_len
  generalize imGo o g (n.toNat - 1) (1, 1) [] = G at *
  clear i3
  simp only [List.length_nil] at i2
  simp only [true_and]
  refine ⟨⟨b2, by decide, by decide⟩, ⟨by omega, by omega, hone, hg, ho, rfl⟩, fun h9 => ?_, fun h9 => ?_⟩
  · have i4 := i2 h9
    simp only [if_pos h9, sl]
    refine ⟨⟨i1, by omega, by omega⟩, by omega, ?_⟩
    cases h10 : tuneF (b, o, sortFr G.1)
    · simp [noT, h6]
    · simp [h6]
  · simp [if_neg h9, noT, h6]
def C_Re_1 : FuncId → Option Ct := addC 48 ct_iStack C_ReB
theorem C_Re_1_ok : COk Try.prog C_Re_1 := addC_ok C_ReB_ok sat_iStack

def C_Re : FuncId → Option Ct := C_Re_1
theorem C_Re_ok : COk Try.prog C_Re := C_Re_1_ok
end Go.Proofs.Ytjgjcggecikdpaa
