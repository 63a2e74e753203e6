/- Contracts: folded items, of the program and the reference; the law. Conditions: as each says. -/
import Derived.Test.YtemlpimibhijoaaJo
set_option linter.unusedSimpArgs false
set_option linter.unusedVariables false
namespace Go.Proofs.Ytemlpimibhijoaa
open Go.RowKit Sx
set_option maxRecDepth 100000
set_option maxHeartbeats 1000000
theorem pl_gd {z : It} (h : gdI z) : pLen z.2.1 ≤ 9223372036854775807 := by
  have := h.4; unfold pLen; omega
theorem cut_all {α : Type} (l : List α) (i : Int) : cutL l i (l.length : Int) = l.drop i.toNat := by simp [cutL]
theorem cut_some {α : Type} (l : List α) (i c : Int) (hi : 0 ≤ i) (hc : 0 ≤ c) : cutL l i (i + c) = (l.drop i.toNat).take c.toNat := by
  unfold cutL
  rw [show (i + c).toNat = i.toNat + c.toNat by omega, List.drop_take, Nat.add_sub_cancel_left]
theorem plain_gd {l : Its} (h : okItems l = true) (hg : l.any grpB = false) : ∀ z ∈ l, gdI z := by
  obtain ⟨_, d, d0, d3, hv⟩ := okItems_vl h
  have := flat_gd d0 d3 hv
  rw [flat_plainI l hg] at this
  exact this
def foldA (l : Its) : Its × Int := if okItems l = true then (if l.any grpB = true then ([], 6) else (foldL l, 0)) else ([], 1)
def ann_iFoldItems_0 : LAnn := { sameS := [0], modS := [4, 5], sameH := [], modH := [], base := 900000, nilE := [], nilB := [], G := fun
  | ⟨[.view (.pair (.int .i64) (.pair (.seq (.pair (.int .i64) (.pair (.int .i64) (.int .i64)))) (.pair (.pair (.int .i64) (.int .i64)) (.pair (.int .i64) (.pair (.pair (.int .i64) (.int .i64)) (.int .i64)))))) l], [], [.own (.deep (.pair (.int .i64) (.pair (.seq (.pair (.int .i64) (.pair (.int .i64) (.int .i64)))) (.pair (.pair (.int .i64) (.int .i64)) (.pair (.int .i64) (.pair (.pair (.int .i64) (.int .i64)) (.int .i64))))))) out, .int .i64 i], []⟩ => some (.p (((0 ≤ i ∧ i ≤ (l.length : Int)) ∧ l.length ≤ 80 ∧ (out.length : Int) ≤ 2 * i) ∧ ∀ z ∈ l, gdI z), .leaf (.exit 0) [.own tItemD (out ++ foldL (l.drop i.toNat)), .unk] [])
  | _ => none }
def ann_iFoldItems_1 : LAnn := { sameS := [0, 5, 6, 8, 42, 43], modS := [4, 44], sameH := [], modH := [], base := 950000, nilE := [], nilB := [], G := fun
  | ⟨[.view (.pair (.int .i64) (.pair (.seq (.pair (.int .i64) (.pair (.int .i64) (.int .i64)))) (.pair (.pair (.int .i64) (.int .i64)) (.pair (.int .i64) (.pair (.pair (.int .i64) (.int .i64)) (.int .i64)))))) l, .int .i64 i, .int .i64 n, .int .i64 c, .view (.pair (.int .i64) (.pair (.seq (.pair (.int .i64) (.pair (.int .i64) (.int .i64)))) (.pair (.pair (.int .i64) (.int .i64)) (.pair (.int .i64) (.pair (.pair (.int .i64) (.int .i64)) (.int .i64)))))) ms, .int .i64 m], [], [.own (.deep (.pair (.int .i64) (.pair (.seq (.pair (.int .i64) (.pair (.int .i64) (.int .i64)))) (.pair (.pair (.int .i64) (.int .i64)) (.pair (.int .i64) (.pair (.pair (.int .i64) (.int .i64)) (.int .i64))))))) out, .int .i64 k], []⟩ => some (.p (((0 ≤ k ∧ k ≤ m) ∧ m = (ms.length : Int) ∧ m ≤ 80 ∧ (out.length : Int) + (m - k) ≤ 1000) ∧ ∀ z ∈ ms, gdI z), .leaf (.exit 2) [.own tItemD (out ++ ms.drop k.toNat), .unk] [])
  | _ => none }
def ct_iFoldItems : Ct := ctOf [.v qItem] (fun ((l : List tItem.den), _) => .p ((l.length : Int) ≤ 9223372036854775807 ∧ ∀ z ∈ l, pLen z.2.1 ≤ 9223372036854775807)) (fun ((l : List tItem.den), _) => .tup [.own tItemD (foldA l).1, .int .i64 (foldA l).2])
set_option maxHeartbeats 1000000 in
theorem loop_iFoldItems_1 : LoopSat Try.prog Try.f20.ntmps (loopAt Try.f20 1) ann_iFoldItems_1 := by
  refine loopSat_of (C := (addC 900000000 ctDeep C_Jo)) (L := (addL (firstId (loopAt Try.f20 1)) ann_iFoldItems_1 (addL (firstId (loopAt Try.f20 0)) ann_iFoldItems_0 noL))) (wr := false) mixedOk (addC_ok C_Jo_ok sat_deep) (loopsIn0 (by kernel_rfl)) (fun d => match d.same, d.vals with | [_, _, _, _, _, .int _ m], [_, .int _ k] => (m - k).toNat | _, _ => 0) fun d p t hG hp => ?_
  simp only [ann_iFoldItems_1] at hG
  split at hG
  rotate_left
  · simp at hG
  rename_i l i n c ms m out k
  simp only [Option.some.injEq, Prod.mk.injEq] at hG
  obtain ⟨rfl, rfl⟩ := hG
  have htree : exRound Try.prog (addC 900000000 ctDeep C_Jo) false (addL (firstId (loopAt Try.f20 1)) ann_iFoldItems_1 (addL (firstId (loopAt Try.f20 0)) ann_iFoldItems_0 noL)) Try.f20.ntmps ann_iFoldItems_1 (loopAt Try.f20 1) ⟨[.view tItem l, .int .i64 i, .int .i64 n, .int .i64 c, .view tItem ms, .int .i64 m], [], [.own tItemD out, .int .i64 k], []⟩ = .ite (decide (k < m)) (.need ((0 : Int) ≤ k ∧ k < (↑ms.length : Int)) (.need (List.length (getT tItem ms k).snd.fst ≤ (16777216 : Nat)) (.need (out.length + [getT tItem ms k].length ≤ (16777216 : Nat)) (.need (inK IntKind.i64 (k + (1 : Int))) (.leaf (.normal, ⟨[.view (I64.pair (tPitch.seq.pair (tFrac.pair (I64.pair (tIv.pair I64))))) (l), .int .i64 (i), .int .i64 (n), .int .i64 (c), .view (I64.pair (tPitch.seq.pair (tFrac.pair (I64.pair (tIv.pair I64))))) (ms), .int .i64 (m)], [], [.own (tItem.deep) (out ++ [getT tItem ms k]), .int .i64 (k + (1 : Int))], []⟩)))))) (.leaf ((.exit 2), ⟨[.view (I64.pair (tPitch.seq.pair (tFrac.pair (I64.pair (tIv.pair I64))))) (l), .int .i64 (i), .int .i64 (n), .int .i64 (c), .view (I64.pair (tPitch.seq.pair (tFrac.pair (I64.pair (tIv.pair I64))))) (ms), .int .i64 (m)], [], [.own (tItem.deep) (out), .int .i64 (k)], []⟩)) := by kernel_rfl
  rw [htree]
  clear htree
  replace hp : ((0 ≤ k ∧ k ≤ m) ∧ m = (ms.length : Int) ∧ m ≤ 80 ∧ (out.length : Int) + (m - k) ≤ 1000) ∧ ∀ z ∈ ms, gdI z := hp
  obtain ⟨⟨hk, hm, h80, ho⟩, hg⟩ := hp
  simp only [Tree.ok, tyd_inj, packAV, AV.same, AV.same.sameL, encV, encS, enc, inK, Nd.ok, List.headD_cons, List.cons_append, List.nil_append, List.append_nil, true_and, and_true, Bool.true_and, Bool.and_true, loop_next, weakBs_nil, weakBs_cons, weakB_self, weakB_row, weakB_int, weakL_nil, weakL_unk, weakL_guess, isRow_own, isRow_unk, weakL_int, weakL_bool, weakL_str, weakL_own, weakL_view, weakL_nilS, noRow_int, noRow_bool, own_inj, LTree.val, cond_true, cond_false, Prod.mk.injEq, List.cons.injEq, AV.int.injEq, AV.bool.injEq, AV.str.injEq, AV.agg.injEq, ann_iFoldItems_1, decide_eq_true_eq, decide_eq_false_iff_not]
  simp only [getT]
  refine ⟨fun ha => ?_, fun ha => ?_⟩
  · have h1 := drop_at ms tItem.zero k.toNat (by omega)
    have hy := mem_at hg k.toNat tItem.zero (by omega)
    rw [show (k + 1).toNat = k.toNat + 1 by omega, h1]
    clear h1
    obtain ⟨K, P, A1, A2, V1, M1, M2, Z1, he⟩ := i8 (ms.getD k.toNat tItem.zero)
    simp only [he, List.length_append, List.length_cons, List.length_nil, List.append_assoc, List.singleton_append] at *
    have hy6 : P.length ≤ 6 := hy.4
    repeat' first | apply And.intro | intro _
    all_goals first | omega | assumption | trivial | exact hg _ ‹_› | rfl
  · rw [show k.toNat = ms.length by omega, List.drop_length]
    simp [Tree.ok, tyd_inj, packAV, AV.same, AV.same.sameL, encV, encS, enc, inK, Nd.ok, List.headD_cons, List.cons_append, List.nil_append, List.append_nil, true_and, and_true, Bool.true_and, Bool.and_true, loop_next, weakBs_nil, weakBs_cons, weakB_self, weakB_row, weakB_int, weakL_nil, weakL_unk, weakL_guess, isRow_own, isRow_unk, weakL_int, weakL_bool, weakL_str, weakL_own, weakL_view, weakL_nilS, noRow_int, noRow_bool, own_inj, LTree.val, cond_true, cond_false, Prod.mk.injEq, List.cons.injEq, AV.int.injEq, AV.bool.injEq, AV.str.injEq, AV.agg.injEq]
set_option maxHeartbeats 1000000 in
theorem loop_iFoldItems_0 : LoopSat Try.prog Try.f20.ntmps (loopAt Try.f20 0) ann_iFoldItems_0 := by
  refine loopSat_of (C := (addC 900000000 ctDeep C_Jo)) (L := (addL (firstId (loopAt Try.f20 1)) ann_iFoldItems_1 (addL (firstId (loopAt Try.f20 0)) ann_iFoldItems_0 noL))) (wr := false) mixedOk (addC_ok C_Jo_ok sat_deep) (loopsIn1 (b := loopAt Try.f20 1) (by kernel_rfl) (fun ann h => (Option.some.inj ((show (addL (firstId (loopAt Try.f20 1)) ann_iFoldItems_1 (addL (firstId (loopAt Try.f20 0)) ann_iFoldItems_0 noL)) (firstId (loopAt Try.f20 1)) = some ann_iFoldItems_1 from by kernel_rfl).symm.trans h)) ▸ loop_iFoldItems_1)) (fun d => match d.same, d.vals with | [.view _ l], [_, .int _ i] => ((l.length : Int) - i).toNat | _, _ => 0) fun d p t hG hp => ?_
  simp only [ann_iFoldItems_0] at hG
  split at hG
  rotate_left
  · simp at hG
  rename_i l out i
  simp only [Option.some.injEq, Prod.mk.injEq] at hG
  obtain ⟨rfl, rfl⟩ := hG
  have htree : exRound Try.prog (addC 900000000 ctDeep C_Jo) false (addL (firstId (loopAt Try.f20 1)) ann_iFoldItems_1 (addL (firstId (loopAt Try.f20 0)) ann_iFoldItems_0 noL)) Try.f20.ntmps ann_iFoldItems_0 (loopAt Try.f20 0) ⟨[.view tItem l], [], [.own tItemD out, .int .i64 i], []⟩ = .ite (decide (i < (↑l.length : Int))) (.need ((0 : Int) ≤ i ∧ i ≤ (↑l.length : Int)) (.need ((cutL l i (↑l.length : Int)).length ≤ (80 : Nat) ∧ ∀ (z : tItem.den), z ∈ cutL l i (↑l.length : Int) → pLen z.snd.fst ≤ (9223372036854775807 : Int)) (.ite (decide ((0 : Int) < (↑(bestI (cutL l i (↑l.length : Int))).fst : Int))) (.need (out.length + [((4 : Int), ([] : List tPitch.den), ((0 : Int), (0 : Int)), (↑(bestI (cutL l i (↑l.length : Int))).fst : Int), ((0 : Int), (0 : Int)), (↑(bestI (cutL l i (↑l.length : Int))).snd : Int))].length ≤ (16777216 : Nat)) (.need (inK IntKind.i64 (i + (↑(bestI (cutL l i (↑l.length : Int))).snd : Int))) (.need ((0 : Int) ≤ i ∧ i ≤ i + (↑(bestI (cutL l i (↑l.length : Int))).snd : Int) ∧ i + (↑(bestI (cutL l i (↑l.length : Int))).snd : Int) ≤ (↑l.length : Int)) (.need ((((0 : Int) ≤ (0 : Int) ∧ (0 : Int) ≤ (↑(cutL l i (i + (↑(bestI (cutL l i (↑l.length : Int))).snd : Int))).length : Int)) ∧ (↑(cutL l i (i + (↑(bestI (cutL l i (↑l.length : Int))).snd : Int))).length : Int) = (↑(cutL l i (i + (↑(bestI (cutL l i (↑l.length : Int))).snd : Int))).length : Int) ∧ (↑(cutL l i (i + (↑(bestI (cutL l i (↑l.length : Int))).snd : Int))).length : Int) ≤ (80 : Int) ∧ (↑(out ++ [((4 : Int), ([] : List tPitch.den), ((0 : Int), (0 : Int)), (↑(bestI (cutL l i (↑l.length : Int))).fst : Int), ((0 : Int), (0 : Int)), (↑(bestI (cutL l i (↑l.length : Int))).snd : Int))]).length : Int) + ((↑(cutL l i (i + (↑(bestI (cutL l i (↑l.length : Int))).snd : Int))).length : Int) - (0 : Int)) ≤ (1000 : Int)) ∧ ∀ (z : ((Ty.int IntKind.i64).pair (((Ty.int IntKind.i64).pair ((Ty.int IntKind.i64).pair (Ty.int IntKind.i64))).seq.pair (((Ty.int IntKind.i64).pair (Ty.int IntKind.i64)).pair ((Ty.int IntKind.i64).pair (((Ty.int IntKind.i64).pair (Ty.int IntKind.i64)).pair (Ty.int IntKind.i64)))))).den), z ∈ cutL l i (i + (↑(bestI (cutL l i (↑l.length : Int))).snd : Int)) → gdI z) (.need (inK IntKind.i64 ((bif true then max (1 : Int) (↑(bestI (cutL l i (↑l.length : Int))).fst : Int) else min (1 : Int) (↑(bestI (cutL l i (↑l.length : Int))).fst : Int)) * (↑(bestI (cutL l i (↑l.length : Int))).snd : Int))) (.need (inK IntKind.i64 (i + (bif true then max (1 : Int) (↑(bestI (cutL l i (↑l.length : Int))).fst : Int) else min (1 : Int) (↑(bestI (cutL l i (↑l.length : Int))).fst : Int)) * (↑(bestI (cutL l i (↑l.length : Int))).snd : Int))) (.leaf (.normal, ⟨[.view (I64.pair (tPitch.seq.pair (tFrac.pair (I64.pair (tIv.pair I64))))) (l)], [], [.own (tItem.deep) (out ++ [((4 : Int), ([] : List tPitch.den), ((0 : Int), (0 : Int)), (↑(bestI (cutL l i (↑l.length : Int))).fst : Int), ((0 : Int), (0 : Int)), (↑(bestI (cutL l i (↑l.length : Int))).snd : Int))] ++ List.drop (Int.toNat (0 : Int)) (cutL l i (i + (↑(bestI (cutL l i (↑l.length : Int))).snd : Int)))), .int .i64 (i + (bif true then max (1 : Int) (↑(bestI (cutL l i (↑l.length : Int))).fst : Int) else min (1 : Int) (↑(bestI (cutL l i (↑l.length : Int))).fst : Int)) * (↑(bestI (cutL l i (↑l.length : Int))).snd : Int))], []⟩)))))))) (.need (inK IntKind.i64 (i + (1 : Int))) (.need ((0 : Int) ≤ i ∧ i ≤ i + (1 : Int) ∧ i + (1 : Int) ≤ (↑l.length : Int)) (.need ((((0 : Int) ≤ (0 : Int) ∧ (0 : Int) ≤ (↑(cutL l i (i + (1 : Int))).length : Int)) ∧ (↑(cutL l i (i + (1 : Int))).length : Int) = (↑(cutL l i (i + (1 : Int))).length : Int) ∧ (↑(cutL l i (i + (1 : Int))).length : Int) ≤ (80 : Int) ∧ (↑out.length : Int) + ((↑(cutL l i (i + (1 : Int))).length : Int) - (0 : Int)) ≤ (1000 : Int)) ∧ ∀ (z : ((Ty.int IntKind.i64).pair (((Ty.int IntKind.i64).pair ((Ty.int IntKind.i64).pair (Ty.int IntKind.i64))).seq.pair (((Ty.int IntKind.i64).pair (Ty.int IntKind.i64)).pair ((Ty.int IntKind.i64).pair (((Ty.int IntKind.i64).pair (Ty.int IntKind.i64)).pair (Ty.int IntKind.i64)))))).den), z ∈ cutL l i (i + (1 : Int)) → gdI z) (.need (inK IntKind.i64 ((bif true then max (1 : Int) (↑(bestI (cutL l i (↑l.length : Int))).fst : Int) else min (1 : Int) (↑(bestI (cutL l i (↑l.length : Int))).fst : Int)) * (1 : Int))) (.need (inK IntKind.i64 (i + (bif true then max (1 : Int) (↑(bestI (cutL l i (↑l.length : Int))).fst : Int) else min (1 : Int) (↑(bestI (cutL l i (↑l.length : Int))).fst : Int)) * (1 : Int))) (.leaf (.normal, ⟨[.view (I64.pair (tPitch.seq.pair (tFrac.pair (I64.pair (tIv.pair I64))))) (l)], [], [.own (tItem.deep) (out ++ List.drop (Int.toNat (0 : Int)) (cutL l i (i + (1 : Int)))), .int .i64 (i + (bif true then max (1 : Int) (↑(bestI (cutL l i (↑l.length : Int))).fst : Int) else min (1 : Int) (↑(bestI (cutL l i (↑l.length : Int))).fst : Int)) * (1 : Int))], []⟩)))))))))) (.leaf ((.exit 0), ⟨[.view (I64.pair (tPitch.seq.pair (tFrac.pair (I64.pair (tIv.pair I64))))) (l)], [], [.own (tItem.deep) (out), .int .i64 (i)], []⟩)) := by kernel_rfl
  rw [htree]
  clear htree
  replace hp : ((0 ≤ i ∧ i ≤ (l.length : Int)) ∧ l.length ≤ 80 ∧ (out.length : Int) ≤ 2 * i) ∧ ∀ z ∈ l, gdI z := hp
  obtain ⟨⟨hi, h80, ho⟩, hg⟩ := hp
  have hc1 := fun c hc => cut_some l i c hi.1 hc
  simp only [Tree.ok, tyd_inj, packAV, AV.same, AV.same.sameL, encV, encS, enc, inK, Nd.ok, List.headD_cons, List.cons_append, List.nil_append, List.append_nil, true_and, and_true, Bool.true_and, Bool.and_true, loop_next, weakBs_nil, weakBs_cons, weakB_self, weakB_row, weakB_int, weakL_nil, weakL_unk, weakL_guess, isRow_own, isRow_unk, weakL_int, weakL_bool, weakL_str, weakL_own, weakL_view, weakL_nilS, noRow_int, noRow_bool, own_inj, LTree.val, cond_true, cond_false, Prod.mk.injEq, List.cons.injEq, AV.int.injEq, AV.bool.injEq, AV.str.injEq, AV.agg.injEq, ann_iFoldItems_0, decide_eq_true_eq, decide_eq_false_iff_not, cond_true, cut_all]
  refine ⟨fun ha => ?_, fun ha => ?_⟩
  · have hT : (l.drop i.toNat).length = l.length - i.toNat := List.length_drop
    have hne : l.drop i.toNat ≠ [] := fun h => by rw [h] at hT; simp at hT; omega
    have hgT : ∀ z ∈ l.drop i.toNat, gdI z := fun z hz => hg z (List.mem_of_mem_drop hz)
    have hs := foldL_step _ hne
    have hb := best_ok (l.drop i.toNat)
    have hnx : ∀ N : Nat, l.drop (i.toNat + N) = (l.drop i.toNat).drop N := fun N => by rw [List.drop_drop]
    rw [hs]
    simp only [foldS] at *
    clear hs
    generalize l.drop i.toNat = T at *
    generalize bestI T = E at *
    obtain ⟨n, p⟩ := E
    simp only [bOk, Prod.mk.injEq] at hb ⊢
    have hgt : ∀ k, ∀ z ∈ T.take k, gdI z := fun k z hz => hgT z (List.mem_of_mem_take hz)
    by_cases h0 : n = 0
    · subst h0
      rw [if_pos rfl]
      simp only [show max (1 : Int) ((0 : Nat) : Int) = 1 from rfl, Int.one_mul, hc1 1 (by omega), show (1 : Int).toNat = 1 from rfl, show (0 : Int).toNat = 0 from rfl, List.drop_zero, List.length_take]
      rw [show (i + 1).toNat = i.toNat + 1 by omega, hnx 1]
      repeat' first | apply And.intro | intro _
      all_goals first | omega | assumption | trivial | exact pl_gd (hgT _ ‹_›) | exact hgt _ _ ‹_› | exact hg _ ‹_› | (simp only [List.length_append, List.length_take]; omega) | (simp [Tree.ok, tyd_inj, packAV, AV.same, AV.same.sameL, encV, encS, enc, inK, Nd.ok, List.headD_cons, List.cons_append, List.nil_append, List.append_nil, true_and, and_true, Bool.true_and, Bool.and_true, loop_next, weakBs_nil, weakBs_cons, weakB_self, weakB_row, weakB_int, weakL_nil, weakL_unk, weakL_guess, isRow_own, isRow_unk, weakL_int, weakL_bool, weakL_str, weakL_own, weakL_view, weakL_nilS, noRow_int, noRow_bool, own_inj, LTree.val, cond_true, cond_false, Prod.mk.injEq, List.cons.injEq, AV.int.injEq, AV.bool.injEq, AV.str.injEq, AV.agg.injEq]; done) | (exfalso; omega)
    · rw [if_neg h0]
      obtain ⟨hn, hp1, hnp⟩ := hb.resolve_left (fun h => h0 h.1)
      have hmx : max (1 : Int) (n : Int) = (n : Int) := by omega
      have hcs : (n : Int) * (p : Int) = ((n * p : Nat) : Int) := (Int.natCast_mul n p).symm
      have hlo : 2 * p ≤ n * p := Nat.mul_le_mul_right p hn.1
      simp only [hmx, hcs, hc1 (p : Int) (by omega), Int.toNat_natCast, show (0 : Int).toNat = 0 from rfl, List.drop_zero, List.length_take]
      generalize n * p = N at *
      rw [show (i + (N : Int)).toNat = i.toNat + N by omega, hnx N]
      repeat' first | apply And.intro | intro _
      all_goals first | omega | assumption | trivial | exact pl_gd (hgT _ ‹_›) | exact hgt _ _ ‹_› | exact hg _ ‹_› | (simp only [List.length_append, List.length_take, List.length_cons, List.length_nil]; omega) | (simp [Tree.ok, tyd_inj, packAV, AV.same, AV.same.sameL, encV, encS, enc, inK, Nd.ok, List.headD_cons, List.cons_append, List.nil_append, List.append_nil, true_and, and_true, Bool.true_and, Bool.and_true, loop_next, weakBs_nil, weakBs_cons, weakB_self, weakB_row, weakB_int, weakL_nil, weakL_unk, weakL_guess, isRow_own, isRow_unk, weakL_int, weakL_bool, weakL_str, weakL_own, weakL_view, weakL_nilS, noRow_int, noRow_bool, own_inj, LTree.val, cond_true, cond_false, Prod.mk.injEq, List.cons.injEq, AV.int.injEq, AV.bool.injEq, AV.str.injEq, AV.agg.injEq]; done) | (exfalso; omega)
  · rw [show i.toNat = l.length by omega, List.drop_length, foldL_nil]
    simp [Tree.ok, tyd_inj, packAV, AV.same, AV.same.sameL, encV, encS, enc, inK, Nd.ok, List.headD_cons, List.cons_append, List.nil_append, List.append_nil, true_and, and_true, Bool.true_and, Bool.and_true, loop_next, weakBs_nil, weakBs_cons, weakB_self, weakB_row, weakB_int, weakL_nil, weakL_unk, weakL_guess, isRow_own, isRow_unk, weakL_int, weakL_bool, weakL_str, weakL_own, weakL_view, weakL_nilS, noRow_int, noRow_bool, own_inj, LTree.val, cond_true, cond_false, Prod.mk.injEq, List.cons.injEq, AV.int.injEq, AV.bool.injEq, AV.str.injEq, AV.agg.injEq]
theorem loops_iFoldItems : ∀ c, Try.f20.body = some c → LoopsOk Try.prog (addL (firstId (loopAt Try.f20 1)) ann_iFoldItems_1 (addL (firstId (loopAt Try.f20 0)) ann_iFoldItems_0 noL)) Try.f20.ntmps c := loopsN fun i hi ann h => by
  have hn : loopN Try.f20 = 2 := by kernel_rfl
  rw [hn] at hi
  exact match i, hi, h with
    | 0, _, h => (Option.some.inj ((show (addL (firstId (loopAt Try.f20 1)) ann_iFoldItems_1 (addL (firstId (loopAt Try.f20 0)) ann_iFoldItems_0 noL)) (firstId (loopAt Try.f20 0)) = some ann_iFoldItems_0 from by kernel_rfl).symm.trans h)) ▸ loop_iFoldItems_0
    | 1, _, h => (Option.some.inj ((show (addL (firstId (loopAt Try.f20 1)) ann_iFoldItems_1 (addL (firstId (loopAt Try.f20 0)) ann_iFoldItems_0 noL)) (firstId (loopAt Try.f20 1)) = some ann_iFoldItems_1 from by kernel_rfl).symm.trans h)) ▸ loop_iFoldItems_1
set_option maxHeartbeats 1000000 in
theorem sat_iFoldItems : Sat Try.prog 20 ct_iFoldItems := by
  refine sat_typed (C := (addC 900000000 ctDeep C_Jo)) (L := (addL (firstId (loopAt Try.f20 1)) ann_iFoldItems_1 (addL (firstId (loopAt Try.f20 0)) ann_iFoldItems_0 noL))) (wr := false) mixedOk Try.func20 (addC_ok C_Jo_ok sat_deep) (loops_iFoldItems) (fun _ => by first | rfl | (simp [ownsOf, ownsOf.ownsL, enc, encV, encS])) fun x hp => ?_
  obtain ⟨(l : List tItem.den), _⟩ := x
  replace hp : (l.length : Int) ≤ 9223372036854775807 ∧ ∀ z ∈ l, pLen z.2.1 ≤ 9223372036854775807 := hp
  have htree : exFunc Try.prog (addC 900000000 ctDeep C_Jo) false (addL (firstId (loopAt Try.f20 1)) ann_iFoldItems_1 (addL (firstId (loopAt Try.f20 0)) ann_iFoldItems_0 noL)) Try.f20 (encA [.v qItem] (l, ())) = .need ((↑l.length : Int) ≤ (9223372036854775807 : Int) ∧ ∀ (z : tItem.den), z ∈ l → pLen z.snd.fst ≤ (9223372036854775807 : Int)) (.ite (!(decide (l.length ≤ (80 : Nat)) && rngF l.length l (0 : Int))) (.leaf [.nilS, .int .i64 ((1 : Int))]) (.need (l.length ≤ (80 : Nat)) (.ite (l.any grpB) (.leaf [.nilS, .int .i64 ((6 : Int))]) (.need ((((0 : Int) ≤ (0 : Int) ∧ (0 : Int) ≤ (↑l.length : Int)) ∧ l.length ≤ (80 : Nat) ∧ (↑(0 : Nat) : Int) ≤ (2 : Int) * (0 : Int)) ∧ ∀ (z : ((Ty.int IntKind.i64).pair (((Ty.int IntKind.i64).pair ((Ty.int IntKind.i64).pair (Ty.int IntKind.i64))).seq.pair (((Ty.int IntKind.i64).pair (Ty.int IntKind.i64)).pair ((Ty.int IntKind.i64).pair (((Ty.int IntKind.i64).pair (Ty.int IntKind.i64)).pair (Ty.int IntKind.i64)))))).den), z ∈ l → gdI z) (.leaf [.own (tItem.deep) ([] ++ foldL (List.drop (Int.toNat (0 : Int)) l)), .int .i64 ((0 : Int))]))))) := by kernel_rfl
  refine (congrArg (Tree.ok _) htree).mpr ?_
  clear htree
  have hv := @okItems_vl l
  have hpg := @plain_gd l
  have e : (decide (l.length ≤ 80) && rngF l.length l 0) = okItems l := rfl
  simp only [Tree.ok, tyd_inj, packAV, AV.same, AV.same.sameL, encV, encS, enc, inK, Nd.ok, List.headD_cons, List.cons_append, List.nil_append, List.append_nil, true_and, and_true, Bool.true_and, Bool.and_true, foldA, e, show (0 : Int).toNat = 0 from rfl, List.drop_zero, List.nil_append]
  cases ho : okItems l
  · simp only [Bool.false_eq_true, if_false]
    repeat' first | apply And.intro | intro _
    all_goals first | exact hp.1 | exact hp.2 _ ‹_› | trivial | rfl | contradiction | (simp_all; done)
  · simp only [if_true]
    cases hgr : l.any grpB
    all_goals
      simp only [Bool.false_eq_true, if_false, if_true]
      repeat' first | apply And.intro | intro _
      all_goals first | exact hp.1 | exact hp.2 _ ‹_› | exact (hv ho).1 | exact hpg ho hgr _ ‹_› | omega | trivial | rfl | contradiction | (have := (hv ho).1; omega) | (simp_all; done)
def C_Jv_1 : FuncId → Option Ct := addC 20 ct_iFoldItems C_Jo
theorem C_Jv_1_ok : COk Try.prog C_Jv_1 := addC_ok C_Jo_ok sat_iFoldItems
def ann_sFoldItems_0 : LAnn := { sameS := [0], modS := [2, 3, 4], sameH := [], modH := [], base := 900000, nilE := [], nilB := [], G := fun
  | ⟨[.view (.pair (.int .i64) (.pair (.seq (.pair (.int .i64) (.pair (.int .i64) (.int .i64)))) (.pair (.pair (.int .i64) (.int .i64)) (.pair (.int .i64) (.pair (.pair (.int .i64) (.int .i64)) (.int .i64)))))) l], [], [.nilS, .int .i64 c, .int .i64 i], []⟩ => some (.p ((0 ≤ i ∧ i ≤ (l.length : Int)) ∧ l.length ≤ 80), .ite ((l.drop i.toNat).any grpB) (.leaf .ret [.nilS, .int .i64 6, .unk] []) (.leaf (.exit 0) [.nilS, .int .i64 c, .unk] []))
  | _ => none }
def ann_sFoldItems_1 : LAnn := { sameS := [5], modS := [7, 8], sameH := [28], modH := [], base := 900000, nilE := [], nilB := [], G := fun
  | ⟨[.row 28], [.row (.pair (.int .i64) (.pair (.seq (.pair (.int .i64) (.pair (.int .i64) (.int .i64)))) (.pair (.pair (.int .i64) (.int .i64)) (.pair (.int .i64) (.pair (.pair (.int .i64) (.int .i64)) (.int .i64)))))) fs], [.own (.pair (.int .i64) (.pair (.seq (.pair (.int .i64) (.pair (.int .i64) (.int .i64)))) (.pair (.pair (.int .i64) (.int .i64)) (.pair (.int .i64) (.pair (.pair (.int .i64) (.int .i64)) (.int .i64)))))) out, .int .i64 i], []⟩ => some (.p (((0 ≤ i ∧ i ≤ (fs.length : Int)) ∧ fs.length ≤ 80 ∧ (out.length : Int) ≤ 2 * i) ∧ ∀ z ∈ fs, gdI z), .leaf (.exit 2) [.own tItem (out ++ foldL (fs.drop i.toNat)), .unk] [])
  | _ => none }
def ann_sFoldItems_2 : LAnn := { sameS := [5, 7, 8], modS := [9, 10, 11], sameH := [28, 900000], modH := [], base := 960000, nilE := [], nilB := [], G := fun
  | ⟨[.row 28, .row 900000, .int .i64 i], [.row (.pair (.int .i64) (.pair (.seq (.pair (.int .i64) (.pair (.int .i64) (.int .i64)))) (.pair (.pair (.int .i64) (.int .i64)) (.pair (.int .i64) (.pair (.pair (.int .i64) (.int .i64)) (.int .i64)))))) fs, .row (.pair (.int .i64) (.pair (.seq (.pair (.int .i64) (.pair (.int .i64) (.int .i64)))) (.pair (.pair (.int .i64) (.int .i64)) (.pair (.int .i64) (.pair (.pair (.int .i64) (.int .i64)) (.int .i64)))))) out], [.int .i64 b, .int .i64 t, .int .i64 p], []⟩ => some (.p (((0 ≤ i ∧ i ≤ (fs.length : Int)) ∧ fs.length ≤ 80 ∧ (1 ≤ p ∧ i + 2 * p ≤ (fs.length : Int) + 2) ∧ (0 ≤ b ∧ b ≤ 80) ∧ (0 ≤ t ∧ t ≤ 8)) ∧ ∀ z ∈ fs, gdI z), .leaf (.exit 4) [.int .i64 ((bestQ (fs.drop i.toNat) ((fs.drop i.toNat).length / 2 + 1 - p.toNat) p.toNat (t.toNat, b.toNat)).2 : Int), .int .i64 ((bestQ (fs.drop i.toNat) ((fs.drop i.toNat).length / 2 + 1 - p.toNat) p.toNat (t.toNat, b.toNat)).1 : Int), .unk] [])
  | _ => none }
def ct_sFoldItems : Ct := ctOf [.v qItem] (fun ((l : List tItem.den), _) => .p ((l.length : Int) ≤ 9223372036854775807 ∧ ∀ z ∈ l, pLen z.2.1 ≤ 9223372036854775807)) (fun ((l : List tItem.den), _) => .tup [.own tItem (foldA l).1, .int .i64 (foldA l).2])
set_option maxHeartbeats 1000000 in
theorem loop_sFoldItems_2 : LoopSat Try.prog Try.f19.ntmps (loopAt Try.f19 2) ann_sFoldItems_2 := by
  refine loopSat_of (C := C_Jv_1) (L := (addL (firstId (loopAt Try.f19 2)) ann_sFoldItems_2 (addL (firstId (loopAt Try.f19 1)) ann_sFoldItems_1 (addL (firstId (loopAt Try.f19 0)) ann_sFoldItems_0 noL)))) (wr := false) mixedOk C_Jv_1_ok (loopsIn0 (by kernel_rfl)) (fun d => match d.vals with | [_, _, .int _ p] => (100 - p).toNat | _ => 0) fun d p t hG hp => ?_
  simp only [ann_sFoldItems_2] at hG
  split at hG
  rotate_left
  · simp at hG
  rename_i i fs out b t p
  simp only [Option.some.injEq, Prod.mk.injEq] at hG
  obtain ⟨rfl, rfl⟩ := hG
  have htree : exRound Try.prog C_Jv_1 false (addL (firstId (loopAt Try.f19 2)) ann_sFoldItems_2 (addL (firstId (loopAt Try.f19 1)) ann_sFoldItems_1 (addL (firstId (loopAt Try.f19 0)) ann_sFoldItems_0 noL))) Try.f19.ntmps ann_sFoldItems_2 (loopAt Try.f19 2) ⟨[.row 28, .row 900000, .int .i64 i], [.row tItem fs, .row tItem out], [.int .i64 b, .int .i64 t, .int .i64 p], []⟩ = .need (inK IntKind.i64 ((2 : Int) * p)) (.need (inK IntKind.i64 (i + (2 : Int) * p)) (.ite (decide (i + (2 : Int) * p ≤ (↑fs.length : Int))) (.need ((fs.length ≤ (80 : Nat) ∧ ((0 : Int) ≤ i ∧ i + (2 : Int) * p ≤ (↑fs.length : Int)) ∧ (1 : Int) ≤ p) ∧ ∀ (z : tItem.den), z ∈ fs → pLen z.snd.fst ≤ (9223372036854775807 : Int)) (.ite (decide ((1 : Int) < (↑(repsN (List.drop i.toNat fs) p.toNat) : Int))) (.need (inK IntKind.i64 ((↑(repsN (List.drop i.toNat fs) p.toNat) : Int) * p)) (.need (inK IntKind.i64 (p + (1 : Int))) (.ite (decide (p + (1 : Int) < (↑(repsN (List.drop i.toNat fs) p.toNat) : Int) * p)) (.need (inK IntKind.i64 ((↑(repsN (List.drop i.toNat fs) p.toNat) : Int) * p)) (.need (inK IntKind.i64 (b * t)) (.ite (decide (b * t < (↑(repsN (List.drop i.toNat fs) p.toNat) : Int) * p)) (.need (inK IntKind.i64 (p + (1 : Int))) (.leaf (.normal, ⟨[.row 28, .row 900000, .int .i64 (i)], [.row (I64.pair (tPitch.seq.pair (tFrac.pair (I64.pair (tIv.pair I64))))) (fs), .row (I64.pair (tPitch.seq.pair (tFrac.pair (I64.pair (tIv.pair I64))))) (out)], [.int .i64 (p), .int .i64 ((↑(repsN (List.drop i.toNat fs) p.toNat) : Int)), .int .i64 (p + (1 : Int))], []⟩))) (.need (inK IntKind.i64 (p + (1 : Int))) (.leaf (.normal, ⟨[.row 28, .row 900000, .int .i64 (i)], [.row (I64.pair (tPitch.seq.pair (tFrac.pair (I64.pair (tIv.pair I64))))) (fs), .row (I64.pair (tPitch.seq.pair (tFrac.pair (I64.pair (tIv.pair I64))))) (out)], [.int .i64 (b), .int .i64 (t), .int .i64 (p + (1 : Int))], []⟩)))))) (.need (inK IntKind.i64 (p + (1 : Int))) (.leaf (.normal, ⟨[.row 28, .row 900000, .int .i64 (i)], [.row (I64.pair (tPitch.seq.pair (tFrac.pair (I64.pair (tIv.pair I64))))) (fs), .row (I64.pair (tPitch.seq.pair (tFrac.pair (I64.pair (tIv.pair I64))))) (out)], [.int .i64 (b), .int .i64 (t), .int .i64 (p + (1 : Int))], []⟩)))))) (.need (inK IntKind.i64 (p + (1 : Int))) (.leaf (.normal, ⟨[.row 28, .row 900000, .int .i64 (i)], [.row (I64.pair (tPitch.seq.pair (tFrac.pair (I64.pair (tIv.pair I64))))) (fs), .row (I64.pair (tPitch.seq.pair (tFrac.pair (I64.pair (tIv.pair I64))))) (out)], [.int .i64 (b), .int .i64 (t), .int .i64 (p + (1 : Int))], []⟩))))) (.leaf ((.exit 4), ⟨[.row 28, .row 900000, .int .i64 (i)], [.row (I64.pair (tPitch.seq.pair (tFrac.pair (I64.pair (tIv.pair I64))))) (fs), .row (I64.pair (tPitch.seq.pair (tFrac.pair (I64.pair (tIv.pair I64))))) (out)], [.int .i64 (b), .int .i64 (t), .int .i64 (p)], []⟩)))) := by kernel_rfl
  rw [htree]
  clear htree
  replace hp : ((0 ≤ i ∧ i ≤ (fs.length : Int)) ∧ fs.length ≤ 80 ∧ (1 ≤ p ∧ i + 2 * p ≤ (fs.length : Int) + 2) ∧ (0 ≤ b ∧ b ≤ 80) ∧ (0 ≤ t ∧ t ≤ 8)) ∧ ∀ z ∈ fs, gdI z := hp
  obtain ⟨⟨hi, h80, hpp, hbb, htt⟩, hg⟩ := hp
  have hT : (fs.drop i.toNat).length = fs.length - i.toNat := List.length_drop
  have hR : repsN (fs.drop i.toNat) p.toNat ≤ 8 := (repsGo_le (fs.drop i.toNat) p.toNat 7 1).2
  simp only [Tree.ok, tyd_inj, packAV, AV.same, AV.same.sameL, encV, encS, enc, inK, Nd.ok, List.headD_cons, List.cons_append, List.nil_append, List.append_nil, true_and, and_true, Bool.true_and, Bool.and_true, loop_next, weakBs_nil, weakBs_cons, weakB_self, weakB_row, weakB_int, weakL_nil, weakL_unk, weakL_guess, isRow_own, isRow_unk, weakL_int, weakL_bool, weakL_str, weakL_own, weakL_view, weakL_nilS, noRow_int, noRow_bool, own_inj, LTree.val, cond_true, cond_false, Prod.mk.injEq, List.cons.injEq, AV.int.injEq, AV.bool.injEq, AV.str.injEq, AV.agg.injEq, ann_sFoldItems_2, decide_eq_true_eq, decide_eq_false_iff_not]
  simp only [hT]
  refine ⟨by omega, by omega, fun ha => ?_, fun ha => ?_⟩
  · rw [show (fs.length - i.toNat) / 2 + 1 - p.toNat = ((fs.length - i.toNat) / 2 + 1 - (p.toNat + 1)) + 1 by omega, show (p + 1).toNat = p.toNat + 1 by omega]
    simp only [bestQ]
    generalize repsN (fs.drop i.toNat) p.toNat = R at *
    generalize (fs.length - i.toNat) / 2 + 1 - (p.toNat + 1) = cnt at *
    have h1 := mul_nn (a := (R : Int)) (b := p) (by omega) (by omega)
    have h2 := mul_nn (a := b) (b := t) (by omega) (by omega)
    rw [Int.toNat_natCast] at h1
    rw [Nat.mul_comm] at h2
    have m1 : 0 * p ≤ (R : Int) * p := Int.mul_le_mul_of_nonneg_right (by omega) (by omega)
    have m2 : (R : Int) * p ≤ 8 * p := Int.mul_le_mul_of_nonneg_right (by omega) (by omega)
    have m3 : 0 * t ≤ b * t := Int.mul_le_mul_of_nonneg_right (by omega) (by omega)
    have m4 : b * t ≤ 80 * t := Int.mul_le_mul_of_nonneg_right (by omega) (by omega)
    simp only [← h1, ← h2]
    clear h1 h2
    generalize (R : Int) * p = m at *
    generalize b * t = q at *
    by_cases hc : 1 < R ∧ p.toNat + 1 < m.toNat ∧ q.toNat < m.toNat
    · rw [if_pos hc]
      repeat' first | apply And.intro | intro _
      all_goals first | omega | assumption | trivial | contradiction | exact pl_gd (hg _ ‹_›) | exact hg _ ‹_› | (exfalso; omega) | (simp [Tree.ok, tyd_inj, packAV, AV.same, AV.same.sameL, encV, encS, enc, inK, Nd.ok, List.headD_cons, List.cons_append, List.nil_append, List.append_nil, true_and, and_true, Bool.true_and, Bool.and_true, loop_next, weakBs_nil, weakBs_cons, weakB_self, weakB_row, weakB_int, weakL_nil, weakL_unk, weakL_guess, isRow_own, isRow_unk, weakL_int, weakL_bool, weakL_str, weakL_own, weakL_view, weakL_nilS, noRow_int, noRow_bool, own_inj, LTree.val, cond_true, cond_false, Prod.mk.injEq, List.cons.injEq, AV.int.injEq, AV.bool.injEq, AV.str.injEq, AV.agg.injEq]; done)
    · rw [if_neg hc]
      repeat' first | apply And.intro | intro _
      all_goals first | omega | assumption | trivial | contradiction | exact pl_gd (hg _ ‹_›) | exact hg _ ‹_› | (exfalso; omega) | (simp [Tree.ok, tyd_inj, packAV, AV.same, AV.same.sameL, encV, encS, enc, inK, Nd.ok, List.headD_cons, List.cons_append, List.nil_append, List.append_nil, true_and, and_true, Bool.true_and, Bool.and_true, loop_next, weakBs_nil, weakBs_cons, weakB_self, weakB_row, weakB_int, weakL_nil, weakL_unk, weakL_guess, isRow_own, isRow_unk, weakL_int, weakL_bool, weakL_str, weakL_own, weakL_view, weakL_nilS, noRow_int, noRow_bool, own_inj, LTree.val, cond_true, cond_false, Prod.mk.injEq, List.cons.injEq, AV.int.injEq, AV.bool.injEq, AV.str.injEq, AV.agg.injEq]; done)
  · rw [show (fs.length - i.toNat) / 2 + 1 - p.toNat = 0 by omega]
    simp only [bestQ]
    repeat' first | apply And.intro | intro _
    all_goals first | omega | assumption | trivial | (simp [Tree.ok, tyd_inj, packAV, AV.same, AV.same.sameL, encV, encS, enc, inK, Nd.ok, List.headD_cons, List.cons_append, List.nil_append, List.append_nil, true_and, and_true, Bool.true_and, Bool.and_true, loop_next, weakBs_nil, weakBs_cons, weakB_self, weakB_row, weakB_int, weakL_nil, weakL_unk, weakL_guess, isRow_own, isRow_unk, weakL_int, weakL_bool, weakL_str, weakL_own, weakL_view, weakL_nilS, noRow_int, noRow_bool, own_inj, LTree.val, cond_true, cond_false, Prod.mk.injEq, List.cons.injEq, AV.int.injEq, AV.bool.injEq, AV.str.injEq, AV.agg.injEq]; omega)
set_option maxHeartbeats 1000000 in
theorem loop_sFoldItems_1 : LoopSat Try.prog Try.f19.ntmps (loopAt Try.f19 1) ann_sFoldItems_1 := by
  refine loopSat_of (C := C_Jv_1) (L := (addL (firstId (loopAt Try.f19 2)) ann_sFoldItems_2 (addL (firstId (loopAt Try.f19 1)) ann_sFoldItems_1 (addL (firstId (loopAt Try.f19 0)) ann_sFoldItems_0 noL)))) (wr := false) mixedOk C_Jv_1_ok (loopsIn1 (b := loopAt Try.f19 2) (by kernel_rfl) (fun ann h => (Option.some.inj ((show (addL (firstId (loopAt Try.f19 2)) ann_sFoldItems_2 (addL (firstId (loopAt Try.f19 1)) ann_sFoldItems_1 (addL (firstId (loopAt Try.f19 0)) ann_sFoldItems_0 noL))) (firstId (loopAt Try.f19 2)) = some ann_sFoldItems_2 from by kernel_rfl).symm.trans h)) ▸ loop_sFoldItems_2)) (fun d => match d.blk, d.vals with | [.row _ fs], [_, .int _ i] => ((fs.length : Int) - i).toNat | _, _ => 0) fun d p t hG hp => ?_
  simp only [ann_sFoldItems_1] at hG
  split at hG
  rotate_left
  · simp at hG
  rename_i fs out i
  simp only [Option.some.injEq, Prod.mk.injEq] at hG
  obtain ⟨rfl, rfl⟩ := hG
  have htree : exRound Try.prog C_Jv_1 false (addL (firstId (loopAt Try.f19 2)) ann_sFoldItems_2 (addL (firstId (loopAt Try.f19 1)) ann_sFoldItems_1 (addL (firstId (loopAt Try.f19 0)) ann_sFoldItems_0 noL))) Try.f19.ntmps ann_sFoldItems_1 (loopAt Try.f19 1) ⟨[.row 28], [.row tItem fs], [.own tItem out, .int .i64 i], []⟩ = .ite (decide (i < (↑fs.length : Int))) (.need ((((0 : Int) ≤ i ∧ i ≤ (↑fs.length : Int)) ∧ fs.length ≤ (80 : Nat) ∧ ((1 : Int) ≤ (1 : Int) ∧ i + (2 : Int) * (1 : Int) ≤ (↑fs.length : Int) + (2 : Int)) ∧ ((0 : Int) ≤ (0 : Int) ∧ (0 : Int) ≤ (80 : Int)) ∧ (0 : Int) ≤ (0 : Int) ∧ (0 : Int) ≤ (8 : Int)) ∧ ∀ (z : ((Ty.int IntKind.i64).pair (((Ty.int IntKind.i64).pair ((Ty.int IntKind.i64).pair (Ty.int IntKind.i64))).seq.pair (((Ty.int IntKind.i64).pair (Ty.int IntKind.i64)).pair ((Ty.int IntKind.i64).pair (((Ty.int IntKind.i64).pair (Ty.int IntKind.i64)).pair (Ty.int IntKind.i64)))))).den), z ∈ fs → gdI z) (.ite ((↑(bestQ (List.drop i.toNat fs) ((List.drop i.toNat fs).length / (2 : Nat) + (1 : Nat) - Int.toNat (1 : Int)) (Int.toNat (1 : Int)) (Int.toNat (0 : Int), Int.toNat (0 : Int))).snd : Int) == (0 : Int)) (.need ((0 : Int) ≤ i ∧ i < (↑fs.length : Int)) (.need (i.toNat < fs.length) (.need (out.length + [fs.getD i.toNat tItem.zero].length ≤ (16777216 : Nat)) (.need (inK IntKind.i64 (i + (1 : Int))) (.leaf (.normal, ⟨[.row 28], [.row (I64.pair (tPitch.seq.pair (tFrac.pair (I64.pair (tIv.pair I64))))) (fs)], [.own (I64.pair (tPitch.seq.pair (tFrac.pair (I64.pair (tIv.pair I64))))) (out ++ [fs.getD i.toNat tItem.zero]), .int .i64 (i + (1 : Int))], []⟩)))))) (.need (out.length + [((4 : Int), ([] : List tPitch.den), ((0 : Int), (0 : Int)), (↑(bestQ (List.drop i.toNat fs) ((List.drop i.toNat fs).length / (2 : Nat) + (1 : Nat) - Int.toNat (1 : Int)) (Int.toNat (1 : Int)) (Int.toNat (0 : Int), Int.toNat (0 : Int))).fst : Int), ((0 : Int), (0 : Int)), (↑(bestQ (List.drop i.toNat fs) ((List.drop i.toNat fs).length / (2 : Nat) + (1 : Nat) - Int.toNat (1 : Int)) (Int.toNat (1 : Int)) (Int.toNat (0 : Int), Int.toNat (0 : Int))).snd : Int))].length ≤ (16777216 : Nat)) (.need (inK IntKind.i64 (i + (↑(bestQ (List.drop i.toNat fs) ((List.drop i.toNat fs).length / (2 : Nat) + (1 : Nat) - Int.toNat (1 : Int)) (Int.toNat (1 : Int)) (Int.toNat (0 : Int), Int.toNat (0 : Int))).snd : Int))) (.need (((0 : Int) ≤ i ∧ i ≤ i + (↑(bestQ (List.drop i.toNat fs) ((List.drop i.toNat fs).length / (2 : Nat) + (1 : Nat) - Int.toNat (1 : Int)) (Int.toNat (1 : Int)) (Int.toNat (0 : Int), Int.toNat (0 : Int))).snd : Int) ∧ i + (↑(bestQ (List.drop i.toNat fs) ((List.drop i.toNat fs).length / (2 : Nat) + (1 : Nat) - Int.toNat (1 : Int)) (Int.toNat (1 : Int)) (Int.toNat (0 : Int), Int.toNat (0 : Int))).snd : Int) ≤ (↑fs.length : Int)) ∧ (0 : Nat) < fs.length) (.need ((out ++ [((4 : Int), ([] : List tPitch.den), ((0 : Int), (0 : Int)), (↑(bestQ (List.drop i.toNat fs) ((List.drop i.toNat fs).length / (2 : Nat) + (1 : Nat) - Int.toNat (1 : Int)) (Int.toNat (1 : Int)) (Int.toNat (0 : Int), Int.toNat (0 : Int))).fst : Int), ((0 : Int), (0 : Int)), (↑(bestQ (List.drop i.toNat fs) ((List.drop i.toNat fs).length / (2 : Nat) + (1 : Nat) - Int.toNat (1 : Int)) (Int.toNat (1 : Int)) (Int.toNat (0 : Int), Int.toNat (0 : Int))).snd : Int))]).length + (List.take ((i + (↑(bestQ (List.drop i.toNat fs) ((List.drop i.toNat fs).length / (2 : Nat) + (1 : Nat) - Int.toNat (1 : Int)) (Int.toNat (1 : Int)) (Int.toNat (0 : Int), Int.toNat (0 : Int))).snd : Int)).toNat - i.toNat) (List.drop i.toNat fs)).length ≤ (16777216 : Nat)) (.need (inK IntKind.i64 ((↑(bestQ (List.drop i.toNat fs) ((List.drop i.toNat fs).length / (2 : Nat) + (1 : Nat) - Int.toNat (1 : Int)) (Int.toNat (1 : Int)) (Int.toNat (0 : Int), Int.toNat (0 : Int))).snd : Int) * (↑(bestQ (List.drop i.toNat fs) ((List.drop i.toNat fs).length / (2 : Nat) + (1 : Nat) - Int.toNat (1 : Int)) (Int.toNat (1 : Int)) (Int.toNat (0 : Int), Int.toNat (0 : Int))).fst : Int))) (.need (inK IntKind.i64 (i + (↑(bestQ (List.drop i.toNat fs) ((List.drop i.toNat fs).length / (2 : Nat) + (1 : Nat) - Int.toNat (1 : Int)) (Int.toNat (1 : Int)) (Int.toNat (0 : Int), Int.toNat (0 : Int))).snd : Int) * (↑(bestQ (List.drop i.toNat fs) ((List.drop i.toNat fs).length / (2 : Nat) + (1 : Nat) - Int.toNat (1 : Int)) (Int.toNat (1 : Int)) (Int.toNat (0 : Int), Int.toNat (0 : Int))).fst : Int))) (.leaf (.normal, ⟨[.row 28], [.row (I64.pair (tPitch.seq.pair (tFrac.pair (I64.pair (tIv.pair I64))))) (fs)], [.own (I64.pair (tPitch.seq.pair (tFrac.pair (I64.pair (tIv.pair I64))))) (out ++ [((4 : Int), ([] : List tPitch.den), ((0 : Int), (0 : Int)), (↑(bestQ (List.drop i.toNat fs) ((List.drop i.toNat fs).length / (2 : Nat) + (1 : Nat) - Int.toNat (1 : Int)) (Int.toNat (1 : Int)) (Int.toNat (0 : Int), Int.toNat (0 : Int))).fst : Int), ((0 : Int), (0 : Int)), (↑(bestQ (List.drop i.toNat fs) ((List.drop i.toNat fs).length / (2 : Nat) + (1 : Nat) - Int.toNat (1 : Int)) (Int.toNat (1 : Int)) (Int.toNat (0 : Int), Int.toNat (0 : Int))).snd : Int))] ++ List.take ((i + (↑(bestQ (List.drop i.toNat fs) ((List.drop i.toNat fs).length / (2 : Nat) + (1 : Nat) - Int.toNat (1 : Int)) (Int.toNat (1 : Int)) (Int.toNat (0 : Int), Int.toNat (0 : Int))).snd : Int)).toNat - i.toNat) (List.drop i.toNat fs)), .int .i64 (i + (↑(bestQ (List.drop i.toNat fs) ((List.drop i.toNat fs).length / (2 : Nat) + (1 : Nat) - Int.toNat (1 : Int)) (Int.toNat (1 : Int)) (Int.toNat (0 : Int), Int.toNat (0 : Int))).snd : Int) * (↑(bestQ (List.drop i.toNat fs) ((List.drop i.toNat fs).length / (2 : Nat) + (1 : Nat) - Int.toNat (1 : Int)) (Int.toNat (1 : Int)) (Int.toNat (0 : Int), Int.toNat (0 : Int))).fst : Int))], []⟩)))))))))) (.leaf ((.exit 2), ⟨[.row 28], [.row (I64.pair (tPitch.seq.pair (tFrac.pair (I64.pair (tIv.pair I64))))) (fs)], [.own (I64.pair (tPitch.seq.pair (tFrac.pair (I64.pair (tIv.pair I64))))) (out), .int .i64 (i)], []⟩)) := by kernel_rfl
  rw [htree]
  clear htree
  replace hp : ((0 ≤ i ∧ i ≤ (fs.length : Int)) ∧ fs.length ≤ 80 ∧ (out.length : Int) ≤ 2 * i) ∧ ∀ z ∈ fs, gdI z := hp
  obtain ⟨⟨hi, h80, ho⟩, hg⟩ := hp
  simp only [Tree.ok, tyd_inj, packAV, AV.same, AV.same.sameL, encV, encS, enc, inK, Nd.ok, List.headD_cons, List.cons_append, List.nil_append, List.append_nil, true_and, and_true, Bool.true_and, Bool.and_true, loop_next, weakBs_nil, weakBs_cons, weakB_self, weakB_row, weakB_int, weakL_nil, weakL_unk, weakL_guess, isRow_own, isRow_unk, weakL_int, weakL_bool, weakL_str, weakL_own, weakL_view, weakL_nilS, noRow_int, noRow_bool, own_inj, LTree.val, cond_true, cond_false, Prod.mk.injEq, List.cons.injEq, AV.int.injEq, AV.bool.injEq, AV.str.injEq, AV.agg.injEq, ann_sFoldItems_1, decide_eq_true_eq, decide_eq_false_iff_not, beq_iff_eq, beq_eq_false_iff_ne, show (1 : Int).toNat = 1 from rfl, show (0 : Int).toNat = 0 from rfl, Nat.add_sub_cancel]
  refine ⟨fun ha => ?_, fun ha => ?_⟩
  · have hT : (fs.drop i.toNat).length = fs.length - i.toNat := List.length_drop
    have hne : fs.drop i.toNat ≠ [] := fun h => by rw [h] at hT; simp at hT; omega
    have h1 := drop_at fs tItem.zero i.toNat (by omega)
    have ht1 : (fs.drop i.toNat).take 1 = [fs.getD i.toNat tItem.zero] := by rw [h1]; rfl
    have hs := foldL_step _ hne
    have hb := best_ok (fs.drop i.toNat)
    have hq := bestQ_I (fs.drop i.toNat)
    rw [hq]
    clear hq
    have hnx : ∀ N : Nat, fs.drop (i.toNat + N) = (fs.drop i.toNat).drop N := fun N => by rw [List.drop_drop]
    rw [hs]
    simp only [foldS] at *
    clear hs h1
    rw [ht1]
    clear ht1
    generalize fs.getD i.toNat tItem.zero = y0 at *
    generalize fs.drop i.toNat = T at *
    generalize bestI T = E at *
    obtain ⟨n, p⟩ := E
    simp only [bOk, Prod.mk.injEq] at hb ⊢
    have hcs : (p : Int) * (n : Int) = ((n * p : Nat) : Int) := by rw [Int.mul_comm]; exact (Int.natCast_mul n p).symm
    simp only [hcs, show (i + (p : Int)).toNat - i.toNat = p by omega, List.length_take]
    by_cases h0 : n = 0
    · have hp0 : p = 0 := by
        rcases hb with h | h
        · exact h.2
        · omega
      subst h0 hp0
      rw [if_pos rfl]
      rw [show (i + 1).toNat = i.toNat + 1 by omega, hnx 1]
      repeat' first | apply And.intro | intro _
      all_goals first | omega | assumption | trivial | exact hg _ ‹_› | (simp only [List.length_append, List.length_take, List.length_cons, List.length_nil]; omega) | (simp [Tree.ok, tyd_inj, packAV, AV.same, AV.same.sameL, encV, encS, enc, inK, Nd.ok, List.headD_cons, List.cons_append, List.nil_append, List.append_nil, true_and, and_true, Bool.true_and, Bool.and_true, loop_next, weakBs_nil, weakBs_cons, weakB_self, weakB_row, weakB_int, weakL_nil, weakL_unk, weakL_guess, isRow_own, isRow_unk, weakL_int, weakL_bool, weakL_str, weakL_own, weakL_view, weakL_nilS, noRow_int, noRow_bool, own_inj, LTree.val, cond_true, cond_false, Prod.mk.injEq, List.cons.injEq, AV.int.injEq, AV.bool.injEq, AV.str.injEq, AV.agg.injEq]; done) | (exfalso; omega)
    · rw [if_neg h0]
      obtain ⟨hn, hp1, hnp⟩ := hb.resolve_left (fun h => h0 h.1)
      have hlo : 2 * p ≤ n * p := Nat.mul_le_mul_right p hn.1
      generalize n * p = N at *
      rw [show (i + (N : Int)).toNat = i.toNat + N by omega, hnx N]
      repeat' first | apply And.intro | intro _
      all_goals first | omega | assumption | trivial | exact hg _ ‹_› | (simp only [List.length_append, List.length_take, List.length_cons, List.length_nil]; omega) | (simp [Tree.ok, tyd_inj, packAV, AV.same, AV.same.sameL, encV, encS, enc, inK, Nd.ok, List.headD_cons, List.cons_append, List.nil_append, List.append_nil, true_and, and_true, Bool.true_and, Bool.and_true, loop_next, weakBs_nil, weakBs_cons, weakB_self, weakB_row, weakB_int, weakL_nil, weakL_unk, weakL_guess, isRow_own, isRow_unk, weakL_int, weakL_bool, weakL_str, weakL_own, weakL_view, weakL_nilS, noRow_int, noRow_bool, own_inj, LTree.val, cond_true, cond_false, Prod.mk.injEq, List.cons.injEq, AV.int.injEq, AV.bool.injEq, AV.str.injEq, AV.agg.injEq]; done) | (exfalso; omega)
  · rw [show i.toNat = fs.length by omega, List.drop_length, foldL_nil]
    simp [Tree.ok, tyd_inj, packAV, AV.same, AV.same.sameL, encV, encS, enc, inK, Nd.ok, List.headD_cons, List.cons_append, List.nil_append, List.append_nil, true_and, and_true, Bool.true_and, Bool.and_true, loop_next, weakBs_nil, weakBs_cons, weakB_self, weakB_row, weakB_int, weakL_nil, weakL_unk, weakL_guess, isRow_own, isRow_unk, weakL_int, weakL_bool, weakL_str, weakL_own, weakL_view, weakL_nilS, noRow_int, noRow_bool, own_inj, LTree.val, cond_true, cond_false, Prod.mk.injEq, List.cons.injEq, AV.int.injEq, AV.bool.injEq, AV.str.injEq, AV.agg.injEq]
set_option maxHeartbeats 1000000 in
theorem loop_sFoldItems_0 : LoopSat Try.prog Try.f19.ntmps (loopAt Try.f19 0) ann_sFoldItems_0 := by
  refine loopSat_of (C := C_Jv_1) (L := (addL (firstId (loopAt Try.f19 2)) ann_sFoldItems_2 (addL (firstId (loopAt Try.f19 1)) ann_sFoldItems_1 (addL (firstId (loopAt Try.f19 0)) ann_sFoldItems_0 noL)))) (wr := false) mixedOk C_Jv_1_ok (loopsIn0 (by kernel_rfl)) (fun d => match d.same, d.vals with | [.view _ l], [_, _, .int _ i] => ((l.length : Int) - i).toNat | _, _ => 0) fun d p t hG hp => ?_
  simp only [ann_sFoldItems_0] at hG
  split at hG
  rotate_left
  · simp at hG
  rename_i l c i
  simp only [Option.some.injEq, Prod.mk.injEq] at hG
  obtain ⟨rfl, rfl⟩ := hG
  have htree : exRound Try.prog C_Jv_1 false (addL (firstId (loopAt Try.f19 2)) ann_sFoldItems_2 (addL (firstId (loopAt Try.f19 1)) ann_sFoldItems_1 (addL (firstId (loopAt Try.f19 0)) ann_sFoldItems_0 noL))) Try.f19.ntmps ann_sFoldItems_0 (loopAt Try.f19 0) ⟨[.view tItem l], [], [.nilS, .int .i64 c, .int .i64 i], []⟩ = .ite (decide (i < (↑l.length : Int))) (.need ((0 : Int) ≤ i ∧ i < (↑l.length : Int)) (.ite (decide ((getT tItem l i).fst = (4 : Int)) || decide ((getT tItem l i).fst = (5 : Int))) (.leaf (.ret, ⟨[.view (I64.pair (tPitch.seq.pair (tFrac.pair (I64.pair (tIv.pair I64))))) (l)], [], [.nilS, .int .i64 ((6 : Int)), .int .i64 (i)], []⟩)) (.need (inK IntKind.i64 (i + (1 : Int))) (.leaf (.normal, ⟨[.view (I64.pair (tPitch.seq.pair (tFrac.pair (I64.pair (tIv.pair I64))))) (l)], [], [.nilS, .int .i64 (c), .int .i64 (i + (1 : Int))], []⟩))))) (.leaf ((.exit 0), ⟨[.view (I64.pair (tPitch.seq.pair (tFrac.pair (I64.pair (tIv.pair I64))))) (l)], [], [.nilS, .int .i64 (c), .int .i64 (i)], []⟩)) := by kernel_rfl
  rw [htree]
  clear htree
  replace hp : (0 ≤ i ∧ i ≤ (l.length : Int)) ∧ l.length ≤ 80 := hp
  obtain ⟨hi, h80⟩ := hp
  simp only [Tree.ok, tyd_inj, packAV, AV.same, AV.same.sameL, encV, encS, enc, inK, Nd.ok, List.headD_cons, List.cons_append, List.nil_append, List.append_nil, true_and, and_true, Bool.true_and, Bool.and_true, loop_next, weakBs_nil, weakBs_cons, weakB_self, weakB_row, weakB_int, weakL_nil, weakL_unk, weakL_guess, isRow_own, isRow_unk, weakL_int, weakL_bool, weakL_str, weakL_own, weakL_view, weakL_nilS, noRow_int, noRow_bool, own_inj, LTree.val, cond_true, cond_false, Prod.mk.injEq, List.cons.injEq, AV.int.injEq, AV.bool.injEq, AV.str.injEq, AV.agg.injEq, ann_sFoldItems_0, decide_eq_true_eq, decide_eq_false_iff_not]
  simp only [getT]
  refine ⟨fun ha => ?_, fun ha => ?_⟩
  · have h1 : (l.drop i.toNat).any grpB = (grpB (l.getD i.toNat tItem.zero) || (l.drop (i.toNat + 1)).any grpB) := by
      rw [drop_at l tItem.zero i.toNat (by omega), List.any_cons]
    rw [show (i + 1).toNat = i.toNat + 1 by omega, h1]
    clear h1
    obtain ⟨K, P, A1, A2, V1, M1, M2, Z1, he⟩ := i8 (l.getD i.toNat tItem.zero)
    simp only [he, grpB]
    clear he
    generalize (l.drop (i.toNat + 1)).any grpB = bb
    cases (decide (K = 4) || decide (K = 5)) <;> cases bb
    all_goals
      repeat' first | apply And.intro | intro _
      all_goals first | omega | assumption | trivial | contradiction | (simp [Tree.ok, tyd_inj, packAV, AV.same, AV.same.sameL, encV, encS, enc, inK, Nd.ok, List.headD_cons, List.cons_append, List.nil_append, List.append_nil, true_and, and_true, Bool.true_and, Bool.and_true, loop_next, weakBs_nil, weakBs_cons, weakB_self, weakB_row, weakB_int, weakL_nil, weakL_unk, weakL_guess, isRow_own, isRow_unk, weakL_int, weakL_bool, weakL_str, weakL_own, weakL_view, weakL_nilS, noRow_int, noRow_bool, own_inj, LTree.val, cond_true, cond_false, Prod.mk.injEq, List.cons.injEq, AV.int.injEq, AV.bool.injEq, AV.str.injEq, AV.agg.injEq]; done) | (simp_all; done)
  · rw [show i.toNat = l.length by omega, List.drop_length]
    simp [Tree.ok, tyd_inj, packAV, AV.same, AV.same.sameL, encV, encS, enc, inK, Nd.ok, List.headD_cons, List.cons_append, List.nil_append, List.append_nil, true_and, and_true, Bool.true_and, Bool.and_true, loop_next, weakBs_nil, weakBs_cons, weakB_self, weakB_row, weakB_int, weakL_nil, weakL_unk, weakL_guess, isRow_own, isRow_unk, weakL_int, weakL_bool, weakL_str, weakL_own, weakL_view, weakL_nilS, noRow_int, noRow_bool, own_inj, LTree.val, cond_true, cond_false, Prod.mk.injEq, List.cons.injEq, AV.int.injEq, AV.bool.injEq, AV.str.injEq, AV.agg.injEq]
theorem loops_sFoldItems : ∀ c, Try.f19.body = some c → LoopsOk Try.prog (addL (firstId (loopAt Try.f19 2)) ann_sFoldItems_2 (addL (firstId (loopAt Try.f19 1)) ann_sFoldItems_1 (addL (firstId (loopAt Try.f19 0)) ann_sFoldItems_0 noL))) Try.f19.ntmps c := loopsN fun i hi ann h => by
  have hn : loopN Try.f19 = 3 := by kernel_rfl
  rw [hn] at hi
  exact match i, hi, h with
    | 0, _, h => (Option.some.inj ((show (addL (firstId (loopAt Try.f19 2)) ann_sFoldItems_2 (addL (firstId (loopAt Try.f19 1)) ann_sFoldItems_1 (addL (firstId (loopAt Try.f19 0)) ann_sFoldItems_0 noL))) (firstId (loopAt Try.f19 0)) = some ann_sFoldItems_0 from by kernel_rfl).symm.trans h)) ▸ loop_sFoldItems_0
    | 1, _, h => (Option.some.inj ((show (addL (firstId (loopAt Try.f19 2)) ann_sFoldItems_2 (addL (firstId (loopAt Try.f19 1)) ann_sFoldItems_1 (addL (firstId (loopAt Try.f19 0)) ann_sFoldItems_0 noL))) (firstId (loopAt Try.f19 1)) = some ann_sFoldItems_1 from by kernel_rfl).symm.trans h)) ▸ loop_sFoldItems_1
    | 2, _, h => (Option.some.inj ((show (addL (firstId (loopAt Try.f19 2)) ann_sFoldItems_2 (addL (firstId (loopAt Try.f19 1)) ann_sFoldItems_1 (addL (firstId (loopAt Try.f19 0)) ann_sFoldItems_0 noL))) (firstId (loopAt Try.f19 2)) = some ann_sFoldItems_2 from by kernel_rfl).symm.trans h)) ▸ loop_sFoldItems_2
set_option maxHeartbeats 1000000 in
theorem sat_sFoldItems : Sat Try.prog 19 ct_sFoldItems := by
  refine sat_typed (C := C_Jv_1) (L := (addL (firstId (loopAt Try.f19 2)) ann_sFoldItems_2 (addL (firstId (loopAt Try.f19 1)) ann_sFoldItems_1 (addL (firstId (loopAt Try.f19 0)) ann_sFoldItems_0 noL)))) (wr := false) mixedOk Try.func19 C_Jv_1_ok (loops_sFoldItems) (fun _ => by first | rfl | (simp [ownsOf, ownsOf.ownsL, enc, encV, encS])) fun x hp => ?_
  obtain ⟨(l : List tItem.den), _⟩ := x
  replace hp : (l.length : Int) ≤ 9223372036854775807 ∧ ∀ z ∈ l, pLen z.2.1 ≤ 9223372036854775807 := hp
  have htree : exFunc Try.prog C_Jv_1 false (addL (firstId (loopAt Try.f19 2)) ann_sFoldItems_2 (addL (firstId (loopAt Try.f19 1)) ann_sFoldItems_1 (addL (firstId (loopAt Try.f19 0)) ann_sFoldItems_0 noL))) Try.f19 (encA [.v qItem] (l, ())) = .need ((↑l.length : Int) ≤ (9223372036854775807 : Int) ∧ ∀ (z : tItem.den), z ∈ l → pLen z.snd.fst ≤ (9223372036854775807 : Int)) (.ite (!(decide (l.length ≤ (80 : Nat)) && rngF l.length l (0 : Int))) (.leaf [.nilS, .int .i64 ((1 : Int))]) (.need (((0 : Int) ≤ (0 : Int) ∧ (0 : Int) ≤ (↑l.length : Int)) ∧ l.length ≤ (80 : Nat)) (.ite ((List.drop (Int.toNat (0 : Int)) l).any grpB) (.leaf [.nilS, .int .i64 ((6 : Int))]) (.need (l.length ≤ (80 : Nat) ∧ ∃ (d : Int), (0 : Int) ≤ d ∧ d ≤ (3 : Int) ∧ vl l d) (.need ((((0 : Int) ≤ (0 : Int) ∧ (0 : Int) ≤ (↑(List.length (flatV l).fst) : Int)) ∧ List.length (flatV l).fst ≤ (80 : Nat) ∧ (↑(0 : Nat) : Int) ≤ (2 : Int) * (0 : Int)) ∧ ∀ (z : ((Ty.int IntKind.i64).pair (((Ty.int IntKind.i64).pair ((Ty.int IntKind.i64).pair (Ty.int IntKind.i64))).seq.pair (((Ty.int IntKind.i64).pair (Ty.int IntKind.i64)).pair ((Ty.int IntKind.i64).pair (((Ty.int IntKind.i64).pair (Ty.int IntKind.i64)).pair (Ty.int IntKind.i64)))))).den), z ∈ (flatV l).fst → gdI z) (.leaf [.own (I64.pair (tPitch.seq.pair (tFrac.pair (I64.pair (tIv.pair I64))))) ([] ++ foldL (List.drop (Int.toNat (0 : Int)) (flatV l).fst)), .int .i64 ((0 : Int))])))))) := by kernel_rfl
  refine (congrArg (Tree.ok _) htree).mpr ?_
  clear htree
  have hv := @okItems_vl l
  have hpg := @plain_gd l
  have hfp := flat_plainI l
  have e : (decide (l.length ≤ 80) && rngF l.length l 0) = okItems l := rfl
  simp only [Tree.ok, tyd_inj, packAV, AV.same, AV.same.sameL, encV, encS, enc, inK, Nd.ok, List.headD_cons, List.cons_append, List.nil_append, List.append_nil, true_and, and_true, Bool.true_and, Bool.and_true, foldA, e, show (0 : Int).toNat = 0 from rfl, List.drop_zero, List.nil_append]
  cases ho : okItems l
  · simp only [Bool.false_eq_true, if_false]
    repeat' first | apply And.intro | intro _
    all_goals first | exact hp.1 | exact hp.2 _ ‹_› | trivial | rfl | contradiction | (simp_all; done)
  · simp only [if_true]
    cases hgr : l.any grpB
    · have hfv : flatV l = (l, 0) := by rw [flatV_eq, hfp hgr]; rfl
      simp only [hfv, Bool.false_eq_true, if_false, if_true]
      repeat' first | apply And.intro | intro _
      all_goals first | exact hp.1 | exact hp.2 _ ‹_› | exact (hv ho).1 | exact (hv ho).2 | exact hpg ho hgr _ ‹_› | omega | trivial | rfl | contradiction | (have := (hv ho).1; omega) | (simp_all; done)
    · simp only [Bool.false_eq_true, if_false, if_true]
      repeat' first | apply And.intro | intro _
      all_goals first | exact hp.1 | exact hp.2 _ ‹_› | exact (hv ho).1 | exact (hv ho).2 | omega | trivial | rfl | contradiction | (have := (hv ho).1; omega) | (simp_all; done)
def C_Jv_2 : FuncId → Option Ct := addC 19 ct_sFoldItems C_Jv_1
theorem C_Jv_2_ok : COk Try.prog C_Jv_2 := addC_ok C_Jv_1_ok sat_sFoldItems

def C_Jv : FuncId → Option Ct := C_Jv_2
theorem C_Jv_ok : COk Try.prog C_Jv := C_Jv_2_ok
end Go.Proofs.Ytemlpimibhijoaa
