/- Contracts: the items of a score, of the program. Conditions: as each says. -/
import Derived.Test.YtemlpimibhijoaaJi
set_option linter.unusedSimpArgs false
set_option linter.unusedVariables false
namespace Go.Proofs.Ytemlpimibhijoaa
open Go.RowKit Sx
set_option maxRecDepth 100000
set_option maxHeartbeats 1000000
theorem addN_all {ch : Int} {gs : List Nts} {n : Nt} (hn : noteF n = true) (h : ∀ g ∈ gs, ∀ m ∈ g, noteF m = true) : ∀ g ∈ addN ch gs n, ∀ m ∈ g, noteF m = true := by
  unfold addN
  split
  · split
    · rename_i hc
      have hl : gs.length - 1 < gs.length := by have := List.length_pos_iff.2 hc.1; omega
      intro g hg m hm
      rcases List.mem_or_eq_of_mem_set hg with hg | rfl
      · exact h g hg m hm
      · rcases List.mem_append.1 hm with hm | hm
        · exact gAt_mem (Q := fun g => ∀ m ∈ g, noteF m = true) h _ hl m hm
        · rw [List.mem_singleton.1 hm]; exact hn
    · intro g hg m hm
      rcases List.mem_append.1 hg with hg | hg
      · exact h g hg m hm
      · rw [List.mem_singleton.1 hg] at hm; rw [List.mem_singleton.1 hm]; exact hn
  · exact h
theorem chG_ok (ch : Int) : ∀ (xs : Nts) (gs : List Nts) (k : Int), 0 ≤ k → (∀ n ∈ xs, noteF n = true) → (∀ g ∈ gs, gOk k g) → (∀ g ∈ gs, ∀ m ∈ g, noteF m = true) → (gs.length : Int) ≤ k →
    ((chG ch xs gs).length : Int) ≤ k + (xs.length : Int) ∧ (∀ g ∈ chG ch xs gs, gOk (k + (xs.length : Int)) g) ∧ ∀ g ∈ chG ch xs gs, ∀ m ∈ g, noteF m = true
  | [], gs, k, h0, _, h1, h2, h3 => ⟨by simpa [chG] using h3, fun g hg => gOk_mono (h1 g hg) (by simp), h2⟩
  | n :: t, gs, k, h0, hx, h1, h2, h3 => by
    have ho := addN_ok (ch := ch) (n := n) h0 h1
    have := chG_ok ch t (addN ch gs n) (k + 1) (by omega) (fun m hm => hx m (List.mem_cons_of_mem _ hm)) ho.1 (addN_all (hx n List.mem_cons_self) h2) (by omega)
    have e : k + ((n :: t).length : Int) = k + 1 + (t.length : Int) := by simp only [List.length_cons]; omega
    rw [e]
    exact this
theorem notes_mem {xs : Nts} (h : notesF xs = true) : ∀ n ∈ xs, noteF n = true := fun n hn => List.all_eq_true.1 h n hn
theorem chG_score {xs : Nts} (h : scoreF xs = true) (ch : Int) : xs.length ≤ 60 ∧ (chG ch xs []).length ≤ 60 ∧ ∀ g ∈ chG ch xs [], gOk2 g := by
  obtain ⟨h1, h2⟩ := score_notes h
  obtain ⟨a, b, c⟩ := chG_ok ch xs [] 0 (by omega) (notes_mem h2) (by simp) (by simp) (by simp)
  refine ⟨h1, by omega, fun g hg => ⟨(b g hg).lo, by have := (b g hg).hi; omega, c g hg⟩⟩
theorem weakB_ints (x y : Int) : weakB [.int .i64 x, .int .i64 y] [.unk, .unk] = True := by
  rw [weakB_int]; simp [weakL_unk, weakL_nil, noRow_int]
def ann_iItemsOfScore_0 : LAnn := { sameS := [8, 32, 33], modS := [4, 5, 7, 9, 34], sameH := [], modH := [8], base := 900000, nilE := [], nilB := [], G := fun
  | ⟨[.ptr 8 0, .view (.seq (.pair (.pair (.int .i64) (.int .i64)) (.pair (.pair (.int .i64) (.int .i64)) (.pair (.int .i64) (.pair (.int .i64) (.int .i64)))))) gs, .int .i64 m], [], [.nilS, .int .i64 c, .own (.deep (.pair (.int .i64) (.pair (.seq (.pair (.int .i64) (.pair (.int .i64) (.int .i64)))) (.pair (.pair (.int .i64) (.int .i64)) (.pair (.int .i64) (.pair (.pair (.int .i64) (.int .i64)) (.int .i64))))))) out, .int .i64 lo, .int .i64 k], [[.int .i64 a, .int .i64 b]]⟩ => some (.p (((0 ≤ k ∧ k ≤ m) ∧ m = (gs.length : Int) ∧ m ≤ 60 ∧ (out.length : Int) ≤ 3 * k) ∧ ∀ g ∈ gs, gOk2 g), .ite (decide ((buildGo (gs.drop k.toNat) a b lo).2 = 0)) (.leaf (.exit 0) [.nilS, .int .i64 c, .own tItemD (out ++ (buildGo (gs.drop k.toNat) a b lo).1), .unk, .unk] [[.unk, .unk]]) (.leaf .ret [.nilS, .int .i64 (buildGo (gs.drop k.toNat) a b lo).2, .guess True, .unk, .unk] [[.unk, .unk]]))
  | _ => none }
def ann_iItemsOfScore_1 : LAnn := { sameS := [4, 5, 8, 9, 12, 15, 32, 33, 34, 74, 75], modS := [7, 76], sameH := [8, 12], modH := [15], base := 950000, nilE := [], nilB := [⟨15, 1, 800000, tPitch⟩], G := fun
  | ⟨[.nilS, .int .i64 c, .ptr 8 0, .int .i64 lo, .ptr 12 0, .ptr 15 0, .view (.seq (.pair (.pair (.int .i64) (.int .i64)) (.pair (.pair (.int .i64) (.int .i64)) (.pair (.int .i64) (.pair (.int .i64) (.int .i64)))))) gs, .int .i64 m, .int .i64 k, .view (.pair (.pair (.int .i64) (.int .i64)) (.pair (.pair (.int .i64) (.int .i64)) (.pair (.int .i64) (.pair (.int .i64) (.int .i64))))) ms, .int .i64 q], [.box [.int .i64 a, .int .i64 b], .box [.int .i64 n1, .int .i64 n2, .int .i64 n3, .int .i64 n4, .int .i64 n5, .int .i64 n6, .int .i64 n7]], [.own (.deep (.pair (.int .i64) (.pair (.seq (.pair (.int .i64) (.pair (.int .i64) (.int .i64)))) (.pair (.pair (.int .i64) (.int .i64)) (.pair (.int .i64) (.pair (.pair (.int .i64) (.int .i64)) (.int .i64))))))) out, .int .i64 j], [[.int .i64 x1, .own (.pair (.int .i64) (.pair (.int .i64) (.int .i64))) ps, .int .i64 u, .int .i64 v, .int .i64 z1, .int .i64 z2, .int .i64 z3, .int .i64 z4]]⟩ => some (.p (((0 ≤ j ∧ j ≤ q) ∧ q = (ms.length : Int) ∧ q ≤ 60 ∧ (ps.length : Int) + (q - j) ≤ 1000) ∧ ∀ n ∈ ms, noteF n = true), .leaf (.exit 2) [.own tItemD out, .unk] [[.int .i64 x1, .own tPitch (ps ++ (ms.drop j.toNat).map pN), .int .i64 u, .int .i64 v, .int .i64 z1, .int .i64 z2, .int .i64 z3, .int .i64 z4]])
  | _ => none }
def ct_iItemsOfScore : Ct := ctOf [.s qNote, .v (.int .i64)] (fun ((xs : List tNote.den), (ch : Int), _) => .p ((xs.length : Int) ≤ 9223372036854775807)) (fun ((xs : List tNote.den), (ch : Int), _) => .tup [.own tItemD (implI xs ch).1, .int .i64 (implI xs ch).2])
set_option maxHeartbeats 1000000 in
theorem loop_iItemsOfScore_1 : LoopSat Try.prog Try.f24.ntmps (loopAt Try.f24 1) ann_iItemsOfScore_1 := by
  refine loopSat_of (C := (addC 900000000 ctDeep C_Ji)) (L := (addL (firstId (loopAt Try.f24 1)) ann_iItemsOfScore_1 (addL (firstId (loopAt Try.f24 0)) ann_iItemsOfScore_0 noL))) (wr := false) mixedOk (addC_ok C_Ji_ok sat_deep) (loopsIn0 (by kernel_rfl)) (fun d => match d.same, d.vals with | [_, _, _, _, _, _, _, _, _, _, .int _ q], [_, .int _ j] => (q - j).toNat | _, _ => 0) fun d p t hG hp => ?_
  simp only [ann_iItemsOfScore_1] at hG
  split at hG
  rotate_left
  · simp at hG
  rename_i c lo gs m k ms q a b n1 n2 n3 n4 n5 n6 n7 out j x1 ps u v z1 z2 z3 z4
  simp only [Option.some.injEq, Prod.mk.injEq] at hG
  obtain ⟨rfl, rfl⟩ := hG
  have htree : exRound Try.prog (addC 900000000 ctDeep C_Ji) false (addL (firstId (loopAt Try.f24 1)) ann_iItemsOfScore_1 (addL (firstId (loopAt Try.f24 0)) ann_iItemsOfScore_0 noL)) Try.f24.ntmps ann_iItemsOfScore_1 (loopAt Try.f24 1) ⟨[.nilS, .int .i64 c, .ptr 8 0, .int .i64 lo, .ptr 12 0, .ptr 15 0, .view qNote gs, .int .i64 m, .int .i64 k, .view tNote ms, .int .i64 q], [.box [.int .i64 a, .int .i64 b], .box [.int .i64 n1, .int .i64 n2, .int .i64 n3, .int .i64 n4, .int .i64 n5, .int .i64 n6, .int .i64 n7]], [.own tItemD out, .int .i64 j], [[.int .i64 x1, .own tPitch ps, .int .i64 u, .int .i64 v, .int .i64 z1, .int .i64 z2, .int .i64 z3, .int .i64 z4]]⟩ = .ite (decide (j < q)) (.need ((0 : Int) ≤ j ∧ j < (↑ms.length : Int)) (.need (((0 : Int) ≤ (getT tNote ms j).snd.snd.fst ∧ (getT tNote ms j).snd.snd.fst ≤ (127 : Int)) ∧ (-20 : Int) ≤ (0 : Int) ∧ (0 : Int) ≤ (20 : Int)) (.need (ps.length + [((spBest (getT tNote ms j).snd.snd.fst (0 : Int)).fst, (spBest (getT tNote ms j).snd.snd.fst (0 : Int)).snd.fst, (spBest (getT tNote ms j).snd.snd.fst (0 : Int)).snd.snd.fst)].length ≤ (16777216 : Nat)) (.need (inK IntKind.i64 (j + (1 : Int))) (.leaf (.normal, ⟨[.nilS, .int .i64 (c), .ptr 8 0, .int .i64 (lo), .ptr 12 0, .ptr 15 0, .view (tNote.seq) (gs), .int .i64 (m), .int .i64 (k), .view (tFrac.pair (tFrac.pair (I64.pair (I64.pair I64)))) (ms), .int .i64 (q)], [.box [.int .i64 (a), .int .i64 (b)], .box [.int .i64 (n1), .int .i64 (n2), .int .i64 (n3), .int .i64 (n4), .int .i64 (n5), .int .i64 (n6), .int .i64 (n7)]], [.own (tItem.deep) (out), .int .i64 (j + (1 : Int))], [[.int .i64 (x1), .own (I64.pair (I64.pair I64)) (ps ++ [((spBest (getT tNote ms j).snd.snd.fst (0 : Int)).fst, (spBest (getT tNote ms j).snd.snd.fst (0 : Int)).snd.fst, (spBest (getT tNote ms j).snd.snd.fst (0 : Int)).snd.snd.fst)]), .int .i64 (u), .int .i64 (v), .int .i64 (z1), .int .i64 (z2), .int .i64 (z3), .int .i64 (z4)]]⟩)))))) (.leaf ((.exit 2), ⟨[.nilS, .int .i64 (c), .ptr 8 0, .int .i64 (lo), .ptr 12 0, .ptr 15 0, .view (tNote.seq) (gs), .int .i64 (m), .int .i64 (k), .view (tFrac.pair (tFrac.pair (I64.pair (I64.pair I64)))) (ms), .int .i64 (q)], [.box [.int .i64 (a), .int .i64 (b)], .box [.int .i64 (n1), .int .i64 (n2), .int .i64 (n3), .int .i64 (n4), .int .i64 (n5), .int .i64 (n6), .int .i64 (n7)]], [.own (tItem.deep) (out), .int .i64 (j)], [[.int .i64 (x1), .own (I64.pair (I64.pair I64)) (ps), .int .i64 (u), .int .i64 (v), .int .i64 (z1), .int .i64 (z2), .int .i64 (z3), .int .i64 (z4)]]⟩)) := by kernel_rfl
  rw [htree]
  clear htree
  replace hp : ((0 ≤ j ∧ j ≤ q) ∧ q = (ms.length : Int) ∧ q ≤ 60 ∧ (ps.length : Int) + (q - j) ≤ 1000) ∧ ∀ n ∈ ms, noteF n = true := hp
  obtain ⟨⟨hj, hq, h60, hps⟩, hg⟩ := hp
  simp only [Tree.ok, tyd_inj, packAV, AV.same, AV.same.sameL, encV, encS, enc, inK, Nd.ok, List.headD_cons, List.cons_append, List.nil_append, List.append_nil, true_and, and_true, Bool.true_and, Bool.and_true, loop_next, weakBs_nil, weakBs_cons, weakB_self, weakB_row, weakB_int, weakL_nil, weakL_unk, weakL_guess, isRow_own, isRow_unk, weakL_int, weakL_bool, weakL_str, weakL_own, weakL_view, weakL_nilS, noRow_int, noRow_bool, own_inj, LTree.val, cond_true, cond_false, Prod.mk.injEq, List.cons.injEq, AV.int.injEq, AV.bool.injEq, AV.str.injEq, AV.agg.injEq, ann_iItemsOfScore_1, decide_eq_true_eq, decide_eq_false_iff_not]
  simp only [getT]
  refine ⟨fun ha => ?_, fun ha => ?_⟩
  · have h1 : (ms.drop j.toNat).map pN = pN (ms.getD j.toNat tNote.zero) :: (ms.drop (j.toNat + 1)).map pN := by
      rw [List.drop_eq_getElem_cons (by omega), List.map_cons, getD_lt _ _ _ (show j.toNat < ms.length by omega)]
    have hn : noteF (ms.getD j.toNat tNote.zero) = true := hg _ (by rw [getD_lt _ _ _ (show j.toNat < ms.length by omega)]; exact List.getElem_mem _)
    have hb := (noteF_bd hn).2.1
    rw [show (j + 1).toNat = j.toNat + 1 by omega, h1]
    clear h1
    generalize ms.getD j.toNat tNote.zero = n at *
    repeat' first | apply And.intro | intro _
    all_goals first | omega | assumption | trivial | exact hg _ ‹_› | exact hb.1 | exact hb.2 | (simp only [List.length_append, List.length_cons, List.length_nil]; omega) | (simp [Tree.ok, tyd_inj, packAV, AV.same, AV.same.sameL, encV, encS, enc, inK, Nd.ok, List.headD_cons, List.cons_append, List.nil_append, List.append_nil, true_and, and_true, Bool.true_and, Bool.and_true, loop_next, weakBs_nil, weakBs_cons, weakB_self, weakB_row, weakB_int, weakL_nil, weakL_unk, weakL_guess, isRow_own, isRow_unk, weakL_int, weakL_bool, weakL_str, weakL_own, weakL_view, weakL_nilS, noRow_int, noRow_bool, own_inj, LTree.val, cond_true, cond_false, Prod.mk.injEq, List.cons.injEq, AV.int.injEq, AV.bool.injEq, AV.str.injEq, AV.agg.injEq, pN, pKey]; done) | rfl
  · rw [show j.toNat = ms.length by omega, List.drop_length]
    simp [Tree.ok, tyd_inj, packAV, AV.same, AV.same.sameL, encV, encS, enc, inK, Nd.ok, List.headD_cons, List.cons_append, List.nil_append, List.append_nil, true_and, and_true, Bool.true_and, Bool.and_true, loop_next, weakBs_nil, weakBs_cons, weakB_self, weakB_row, weakB_int, weakL_nil, weakL_unk, weakL_guess, isRow_own, isRow_unk, weakL_int, weakL_bool, weakL_str, weakL_own, weakL_view, weakL_nilS, noRow_int, noRow_bool, own_inj, LTree.val, cond_true, cond_false, Prod.mk.injEq, List.cons.injEq, AV.int.injEq, AV.bool.injEq, AV.str.injEq, AV.agg.injEq]
set_option maxHeartbeats 1000000 in
theorem loop_iItemsOfScore_0 : LoopSat Try.prog Try.f24.ntmps (loopAt Try.f24 0) ann_iItemsOfScore_0 := by
  refine loopSat_of (C := (addC 900000000 ctDeep C_Ji)) (L := (addL (firstId (loopAt Try.f24 1)) ann_iItemsOfScore_1 (addL (firstId (loopAt Try.f24 0)) ann_iItemsOfScore_0 noL))) (wr := false) mixedOk (addC_ok C_Ji_ok sat_deep) (loopsIn1 (b := loopAt Try.f24 1) (by kernel_rfl) (fun ann h => (Option.some.inj ((show (addL (firstId (loopAt Try.f24 1)) ann_iItemsOfScore_1 (addL (firstId (loopAt Try.f24 0)) ann_iItemsOfScore_0 noL)) (firstId (loopAt Try.f24 1)) = some ann_iItemsOfScore_1 from by kernel_rfl).symm.trans h)) ▸ loop_iItemsOfScore_1)) (fun d => match d.same, d.vals with | [_, _, .int _ m], [_, _, _, _, .int _ k] => (m - k).toNat | _, _ => 0) fun d p t hG hp => ?_
  simp only [ann_iItemsOfScore_0] at hG
  split at hG
  rotate_left
  · simp at hG
  rename_i gs m c out lo k a b
  simp only [Option.some.injEq, Prod.mk.injEq] at hG
  obtain ⟨rfl, rfl⟩ := hG
  have htree : exRound Try.prog (addC 900000000 ctDeep C_Ji) false (addL (firstId (loopAt Try.f24 1)) ann_iItemsOfScore_1 (addL (firstId (loopAt Try.f24 0)) ann_iItemsOfScore_0 noL)) Try.f24.ntmps ann_iItemsOfScore_0 (loopAt Try.f24 0) ⟨[.ptr 8 0, .view qNote gs, .int .i64 m], [], [.nilS, .int .i64 c, .own tItemD out, .int .i64 lo, .int .i64 k], [[.int .i64 a, .int .i64 b]]⟩ = .ite (decide (k < m)) (.need ((0 : Int) ≤ k ∧ k < (↑gs.length : Int)) (.need ((0 : Int) ≤ (0 : Int) ∧ (0 : Int) < (↑(List.length (getT qNote gs k)) : Int)) (.ite (!((getT tNote (getT qNote gs k) (0 : Int)).fst.fst == a && (getT tNote (getT qNote gs k) (0 : Int)).fst.snd == b)) (.ite ((subF (getT tNote (getT qNote gs k) (0 : Int)).fst.fst (getT tNote (getT qNote gs k) (0 : Int)).fst.snd a b).snd != (0 : Int)) (.leaf (.ret, ⟨[.ptr 8 0, .view (tNote.seq) (gs), .int .i64 (m)], [], [.nilS, .int .i64 ((subF (getT tNote (getT qNote gs k) (0 : Int)).fst.fst (getT tNote (getT qNote gs k) (0 : Int)).fst.snd a b).snd), .own (tItem.deep) (out), .int .i64 (lo), .int .i64 (k)], [[.int .i64 (a), .int .i64 (b)]]⟩)) (.need (out.length + [((2 : Int), ([] : List tPitch.den), (subF (getT tNote (getT qNote gs k) (0 : Int)).fst.fst (getT tNote (getT qNote gs k) (0 : Int)).fst.snd a b).fst, (0 : Int), ((0 : Int), (0 : Int)), (0 : Int))].length ≤ (16777216 : Nat)) (.ite ((getT tNote (getT qNote gs k) (0 : Int)).snd.snd.snd.fst != lo) (.need ((out ++ [((2 : Int), ([] : List tPitch.den), (subF (getT tNote (getT qNote gs k) (0 : Int)).fst.fst (getT tNote (getT qNote gs k) (0 : Int)).fst.snd a b).fst, (0 : Int), ((0 : Int), (0 : Int)), (0 : Int))]).length + [((3 : Int), ([] : List tPitch.den), ((0 : Int), (0 : Int)), (getT tNote (getT qNote gs k) (0 : Int)).snd.snd.snd.fst, ((0 : Int), (0 : Int)), (0 : Int))].length ≤ (16777216 : Nat)) (.need ((((0 : Int) ≤ (0 : Int) ∧ (0 : Int) ≤ (↑(List.length (getT qNote gs k)) : Int)) ∧ (↑(List.length (getT qNote gs k)) : Int) = (↑(List.length (getT qNote gs k)) : Int) ∧ (↑(List.length (getT qNote gs k)) : Int) ≤ (60 : Int) ∧ (↑(0 : Nat) : Int) + ((↑(List.length (getT qNote gs k)) : Int) - (0 : Int)) ≤ (1000 : Int)) ∧ ∀ (n : (((Ty.int IntKind.i64).pair (Ty.int IntKind.i64)).pair (((Ty.int IntKind.i64).pair (Ty.int IntKind.i64)).pair ((Ty.int IntKind.i64).pair ((Ty.int IntKind.i64).pair (Ty.int IntKind.i64))))).den), n ∈ getT qNote gs k → noteF n = true) (.need ((out ++ [((2 : Int), ([] : List tPitch.den), (subF (getT tNote (getT qNote gs k) (0 : Int)).fst.fst (getT tNote (getT qNote gs k) (0 : Int)).fst.snd a b).fst, (0 : Int), ((0 : Int), (0 : Int)), (0 : Int))] ++ [((3 : Int), ([] : List tPitch.den), ((0 : Int), (0 : Int)), (getT tNote (getT qNote gs k) (0 : Int)).snd.snd.snd.fst, ((0 : Int), (0 : Int)), (0 : Int))]).length + [((1 : Int), ([] : List tPitch.den) ++ List.map pN (List.drop (Int.toNat (0 : Int)) (getT qNote gs k)), (getT tNote (getT qNote gs k) (0 : Int)).snd.fst, (0 : Int), ((0 : Int), (0 : Int)), (0 : Int))].length ≤ (16777216 : Nat)) (.need (inK IntKind.i64 (k + (1 : Int))) (.leaf (.normal, ⟨[.ptr 8 0, .view (tNote.seq) (gs), .int .i64 (m)], [], [.nilS, .int .i64 (c), .own (tItem.deep) (out ++ [((2 : Int), ([] : List tPitch.den), (subF (getT tNote (getT qNote gs k) (0 : Int)).fst.fst (getT tNote (getT qNote gs k) (0 : Int)).fst.snd a b).fst, (0 : Int), ((0 : Int), (0 : Int)), (0 : Int))] ++ [((3 : Int), ([] : List tPitch.den), ((0 : Int), (0 : Int)), (getT tNote (getT qNote gs k) (0 : Int)).snd.snd.snd.fst, ((0 : Int), (0 : Int)), (0 : Int))] ++ [((1 : Int), ([] : List tPitch.den) ++ List.map pN (List.drop (Int.toNat (0 : Int)) (getT qNote gs k)), (getT tNote (getT qNote gs k) (0 : Int)).snd.fst, (0 : Int), ((0 : Int), (0 : Int)), (0 : Int))]), .int .i64 ((getT tNote (getT qNote gs k) (0 : Int)).snd.snd.snd.fst), .int .i64 (k + (1 : Int))], [[.int .i64 ((endN (getT tNote (getT qNote gs k) (0 : Int))).fst), .int .i64 ((endN (getT tNote (getT qNote gs k) (0 : Int))).snd)]]⟩)))))) (.need ((((0 : Int) ≤ (0 : Int) ∧ (0 : Int) ≤ (↑(List.length (getT qNote gs k)) : Int)) ∧ (↑(List.length (getT qNote gs k)) : Int) = (↑(List.length (getT qNote gs k)) : Int) ∧ (↑(List.length (getT qNote gs k)) : Int) ≤ (60 : Int) ∧ (↑(0 : Nat) : Int) + ((↑(List.length (getT qNote gs k)) : Int) - (0 : Int)) ≤ (1000 : Int)) ∧ ∀ (n : (((Ty.int IntKind.i64).pair (Ty.int IntKind.i64)).pair (((Ty.int IntKind.i64).pair (Ty.int IntKind.i64)).pair ((Ty.int IntKind.i64).pair ((Ty.int IntKind.i64).pair (Ty.int IntKind.i64))))).den), n ∈ getT qNote gs k → noteF n = true) (.need ((out ++ [((2 : Int), ([] : List tPitch.den), (subF (getT tNote (getT qNote gs k) (0 : Int)).fst.fst (getT tNote (getT qNote gs k) (0 : Int)).fst.snd a b).fst, (0 : Int), ((0 : Int), (0 : Int)), (0 : Int))]).length + [((1 : Int), ([] : List tPitch.den) ++ List.map pN (List.drop (Int.toNat (0 : Int)) (getT qNote gs k)), (getT tNote (getT qNote gs k) (0 : Int)).snd.fst, (0 : Int), ((0 : Int), (0 : Int)), (0 : Int))].length ≤ (16777216 : Nat)) (.need (inK IntKind.i64 (k + (1 : Int))) (.leaf (.normal, ⟨[.ptr 8 0, .view (tNote.seq) (gs), .int .i64 (m)], [], [.nilS, .int .i64 (c), .own (tItem.deep) (out ++ [((2 : Int), ([] : List tPitch.den), (subF (getT tNote (getT qNote gs k) (0 : Int)).fst.fst (getT tNote (getT qNote gs k) (0 : Int)).fst.snd a b).fst, (0 : Int), ((0 : Int), (0 : Int)), (0 : Int))] ++ [((1 : Int), ([] : List tPitch.den) ++ List.map pN (List.drop (Int.toNat (0 : Int)) (getT qNote gs k)), (getT tNote (getT qNote gs k) (0 : Int)).snd.fst, (0 : Int), ((0 : Int), (0 : Int)), (0 : Int))]), .int .i64 (lo), .int .i64 (k + (1 : Int))], [[.int .i64 ((endN (getT tNote (getT qNote gs k) (0 : Int))).fst), .int .i64 ((endN (getT tNote (getT qNote gs k) (0 : Int))).snd)]]⟩)))))))) (.ite ((getT tNote (getT qNote gs k) (0 : Int)).snd.snd.snd.fst != lo) (.need (out.length + [((3 : Int), ([] : List tPitch.den), ((0 : Int), (0 : Int)), (getT tNote (getT qNote gs k) (0 : Int)).snd.snd.snd.fst, ((0 : Int), (0 : Int)), (0 : Int))].length ≤ (16777216 : Nat)) (.need ((((0 : Int) ≤ (0 : Int) ∧ (0 : Int) ≤ (↑(List.length (getT qNote gs k)) : Int)) ∧ (↑(List.length (getT qNote gs k)) : Int) = (↑(List.length (getT qNote gs k)) : Int) ∧ (↑(List.length (getT qNote gs k)) : Int) ≤ (60 : Int) ∧ (↑(0 : Nat) : Int) + ((↑(List.length (getT qNote gs k)) : Int) - (0 : Int)) ≤ (1000 : Int)) ∧ ∀ (n : (((Ty.int IntKind.i64).pair (Ty.int IntKind.i64)).pair (((Ty.int IntKind.i64).pair (Ty.int IntKind.i64)).pair ((Ty.int IntKind.i64).pair ((Ty.int IntKind.i64).pair (Ty.int IntKind.i64))))).den), n ∈ getT qNote gs k → noteF n = true) (.need ((out ++ [((3 : Int), ([] : List tPitch.den), ((0 : Int), (0 : Int)), (getT tNote (getT qNote gs k) (0 : Int)).snd.snd.snd.fst, ((0 : Int), (0 : Int)), (0 : Int))]).length + [((1 : Int), ([] : List tPitch.den) ++ List.map pN (List.drop (Int.toNat (0 : Int)) (getT qNote gs k)), (getT tNote (getT qNote gs k) (0 : Int)).snd.fst, (0 : Int), ((0 : Int), (0 : Int)), (0 : Int))].length ≤ (16777216 : Nat)) (.need (inK IntKind.i64 (k + (1 : Int))) (.leaf (.normal, ⟨[.ptr 8 0, .view (tNote.seq) (gs), .int .i64 (m)], [], [.nilS, .int .i64 (c), .own (tItem.deep) (out ++ [((3 : Int), ([] : List tPitch.den), ((0 : Int), (0 : Int)), (getT tNote (getT qNote gs k) (0 : Int)).snd.snd.snd.fst, ((0 : Int), (0 : Int)), (0 : Int))] ++ [((1 : Int), ([] : List tPitch.den) ++ List.map pN (List.drop (Int.toNat (0 : Int)) (getT qNote gs k)), (getT tNote (getT qNote gs k) (0 : Int)).snd.fst, (0 : Int), ((0 : Int), (0 : Int)), (0 : Int))]), .int .i64 ((getT tNote (getT qNote gs k) (0 : Int)).snd.snd.snd.fst), .int .i64 (k + (1 : Int))], [[.int .i64 ((endN (getT tNote (getT qNote gs k) (0 : Int))).fst), .int .i64 ((endN (getT tNote (getT qNote gs k) (0 : Int))).snd)]]⟩)))))) (.need ((((0 : Int) ≤ (0 : Int) ∧ (0 : Int) ≤ (↑(List.length (getT qNote gs k)) : Int)) ∧ (↑(List.length (getT qNote gs k)) : Int) = (↑(List.length (getT qNote gs k)) : Int) ∧ (↑(List.length (getT qNote gs k)) : Int) ≤ (60 : Int) ∧ (↑(0 : Nat) : Int) + ((↑(List.length (getT qNote gs k)) : Int) - (0 : Int)) ≤ (1000 : Int)) ∧ ∀ (n : (((Ty.int IntKind.i64).pair (Ty.int IntKind.i64)).pair (((Ty.int IntKind.i64).pair (Ty.int IntKind.i64)).pair ((Ty.int IntKind.i64).pair ((Ty.int IntKind.i64).pair (Ty.int IntKind.i64))))).den), n ∈ getT qNote gs k → noteF n = true) (.need (out.length + [((1 : Int), ([] : List tPitch.den) ++ List.map pN (List.drop (Int.toNat (0 : Int)) (getT qNote gs k)), (getT tNote (getT qNote gs k) (0 : Int)).snd.fst, (0 : Int), ((0 : Int), (0 : Int)), (0 : Int))].length ≤ (16777216 : Nat)) (.need (inK IntKind.i64 (k + (1 : Int))) (.leaf (.normal, ⟨[.ptr 8 0, .view (tNote.seq) (gs), .int .i64 (m)], [], [.nilS, .int .i64 (c), .own (tItem.deep) (out ++ [((1 : Int), ([] : List tPitch.den) ++ List.map pN (List.drop (Int.toNat (0 : Int)) (getT qNote gs k)), (getT tNote (getT qNote gs k) (0 : Int)).snd.fst, (0 : Int), ((0 : Int), (0 : Int)), (0 : Int))]), .int .i64 (lo), .int .i64 (k + (1 : Int))], [[.int .i64 ((endN (getT tNote (getT qNote gs k) (0 : Int))).fst), .int .i64 ((endN (getT tNote (getT qNote gs k) (0 : Int))).snd)]]⟩))))))))) (.leaf ((.exit 0), ⟨[.ptr 8 0, .view (tNote.seq) (gs), .int .i64 (m)], [], [.nilS, .int .i64 (c), .own (tItem.deep) (out), .int .i64 (lo), .int .i64 (k)], [[.int .i64 (a), .int .i64 (b)]]⟩)) := by kernel_rfl
  rw [htree]
  clear htree
  replace hp : ((0 ≤ k ∧ k ≤ m) ∧ m = (gs.length : Int) ∧ m ≤ 60 ∧ (out.length : Int) ≤ 3 * k) ∧ ∀ g ∈ gs, gOk2 g := hp
  obtain ⟨⟨hk, hm, h60, ho⟩, hg⟩ := hp
  simp only [Tree.ok, tyd_inj, packAV, AV.same, AV.same.sameL, encV, encS, enc, inK, Nd.ok, List.headD_cons, List.cons_append, List.nil_append, List.append_nil, true_and, and_true, Bool.true_and, Bool.and_true, loop_next, weakBs_nil, weakBs_cons, weakB_self, weakB_row, weakB_int, weakL_nil, weakL_unk, weakL_guess, isRow_own, isRow_unk, weakL_int, weakL_bool, weakL_str, weakL_own, weakL_view, weakL_nilS, noRow_int, noRow_bool, own_inj, LTree.val, cond_true, cond_false, Prod.mk.injEq, List.cons.injEq, AV.int.injEq, AV.bool.injEq, AV.str.injEq, AV.agg.injEq, ann_iItemsOfScore_0, decide_eq_true_eq, decide_eq_false_iff_not, bne_iff_ne, ne_eq, bne_eq_false_iff_eq, beq_iff_eq, beq_eq_false_iff_ne, Bool.not_eq_true', Bool.not_eq_false', Bool.and_eq_true, Bool.and_eq_false_iff]
  simp only [getT, show (0 : Int).toNat = 0 from rfl, List.drop_zero, List.nil_append]
  refine ⟨fun ha => ?_, fun ha => ?_⟩
  · have h1 := buildGo_at gs k.toNat (by omega) a b lo
    have hG := gAt_mem hg k.toNat (by omega)
    rw [show (k + 1).toNat = k.toNat + 1 by omega, h1]
    clear h1
    simp only [gAt] at hG ⊢
    obtain ⟨G, hGe⟩ : ∃ G : List tNote.den, gs.getD k.toNat qNote.zero = G := ⟨_, rfl⟩
    simp only [hGe] at hG ⊢
    clear hGe
    have l1 := hG.lo
    have l3 := hG.hi
    have l4 := hG.all
    clear hG
    simp only [buildGo, gapI, loudI, itRest, itLoud, itNote, hdN]
    obtain ⟨F, hF⟩ : ∃ F : tNote.den, G.getD 0 tNote.zero = F := ⟨_, rfl⟩
    simp only [hF]
    clear hF
    obtain ⟨⟨x, y⟩, L, key, vel, cc⟩ := F
    simp only [Prod.mk.injEq, List.append_assoc, List.singleton_append, List.cons_append, List.nil_append]
    generalize subF x y a b = s at *
    obtain ⟨s1, s2⟩ := s
    generalize endN ((x, y), L, key, vel, cc) = e at *
    obtain ⟨e1, e2⟩ := e
    dsimp only
    generalize hR : buildGo (gs.drop (k.toNat + 1)) e1 e2 vel = R at *
    obtain ⟨R1, R2⟩ := R
    have hk8 : k.toNat < gs.length := by omega
    by_cases hA : x = a ∧ y = b
    · by_cases hv : vel = lo
      all_goals
        by_cases h0 : R2 = 0
        all_goals
          simp only [hA.1, hA.2, hv, h0, not_true, false_and, and_true, and_self, if_true, if_false, decide_true, decide_false, List.nil_append, List.length_append, List.length_cons, List.length_nil]
          repeat' first | apply And.intro | intro _
          all_goals first | omega | assumption | trivial | contradiction | exact hg _ ‹_› | exact l4 _ ‹_› | (subst hv; simp_all [Tree.ok, tyd_inj, packAV, AV.same, AV.same.sameL, encV, encS, enc, inK, Nd.ok, List.headD_cons, List.cons_append, List.nil_append, List.append_nil, true_and, and_true, Bool.true_and, Bool.and_true, loop_next, weakBs_nil, weakBs_cons, weakB_self, weakB_row, weakB_int, weakL_nil, weakL_unk, weakL_guess, isRow_own, isRow_unk, weakL_int, weakL_bool, weakL_str, weakL_own, weakL_view, weakL_nilS, noRow_int, noRow_bool, own_inj, LTree.val, cond_true, cond_false, Prod.mk.injEq, List.cons.injEq, AV.int.injEq, AV.bool.injEq, AV.str.injEq, AV.agg.injEq, weakB_ints]; done) | (simp_all [Tree.ok, tyd_inj, packAV, AV.same, AV.same.sameL, encV, encS, enc, inK, Nd.ok, List.headD_cons, List.cons_append, List.nil_append, List.append_nil, true_and, and_true, Bool.true_and, Bool.and_true, loop_next, weakBs_nil, weakBs_cons, weakB_self, weakB_row, weakB_int, weakL_nil, weakL_unk, weakL_guess, isRow_own, isRow_unk, weakL_int, weakL_bool, weakL_str, weakL_own, weakL_view, weakL_nilS, noRow_int, noRow_bool, own_inj, LTree.val, cond_true, cond_false, Prod.mk.injEq, List.cons.injEq, AV.int.injEq, AV.bool.injEq, AV.str.injEq, AV.agg.injEq, weakB_ints]; done)
    · by_cases hs : s2 = 0
      · by_cases hv : vel = lo
        all_goals
          by_cases h0 : R2 = 0
          all_goals
            simp only [hA, hs, hv, h0, not_true, not_false_eq_true, true_and, false_and, and_false, if_true, if_false, decide_true, decide_false, List.nil_append, List.length_append, List.length_cons, List.length_nil]
            repeat' first | apply And.intro | intro _
            all_goals first | omega | assumption | trivial | contradiction | exact hg _ ‹_› | exact l4 _ ‹_› | (subst hv; simp_all [Tree.ok, tyd_inj, packAV, AV.same, AV.same.sameL, encV, encS, enc, inK, Nd.ok, List.headD_cons, List.cons_append, List.nil_append, List.append_nil, true_and, and_true, Bool.true_and, Bool.and_true, loop_next, weakBs_nil, weakBs_cons, weakB_self, weakB_row, weakB_int, weakL_nil, weakL_unk, weakL_guess, isRow_own, isRow_unk, weakL_int, weakL_bool, weakL_str, weakL_own, weakL_view, weakL_nilS, noRow_int, noRow_bool, own_inj, LTree.val, cond_true, cond_false, Prod.mk.injEq, List.cons.injEq, AV.int.injEq, AV.bool.injEq, AV.str.injEq, AV.agg.injEq, weakB_ints]; done) | (simp_all [Tree.ok, tyd_inj, packAV, AV.same, AV.same.sameL, encV, encS, enc, inK, Nd.ok, List.headD_cons, List.cons_append, List.nil_append, List.append_nil, true_and, and_true, Bool.true_and, Bool.and_true, loop_next, weakBs_nil, weakBs_cons, weakB_self, weakB_row, weakB_int, weakL_nil, weakL_unk, weakL_guess, isRow_own, isRow_unk, weakL_int, weakL_bool, weakL_str, weakL_own, weakL_view, weakL_nilS, noRow_int, noRow_bool, own_inj, LTree.val, cond_true, cond_false, Prod.mk.injEq, List.cons.injEq, AV.int.injEq, AV.bool.injEq, AV.str.injEq, AV.agg.injEq, weakB_ints]; done)
      · simp only [hA, hs, not_true, not_false_eq_true, true_and, and_self, if_true, if_false, decide_false]
        repeat' first | apply And.intro | intro _
        all_goals first | omega | assumption | trivial | contradiction | exact hg _ ‹_› | exact l4 _ ‹_› | (simp_all [Tree.ok, tyd_inj, packAV, AV.same, AV.same.sameL, encV, encS, enc, inK, Nd.ok, List.headD_cons, List.cons_append, List.nil_append, List.append_nil, true_and, and_true, Bool.true_and, Bool.and_true, loop_next, weakBs_nil, weakBs_cons, weakB_self, weakB_row, weakB_int, weakL_nil, weakL_unk, weakL_guess, isRow_own, isRow_unk, weakL_int, weakL_bool, weakL_str, weakL_own, weakL_view, weakL_nilS, noRow_int, noRow_bool, own_inj, LTree.val, cond_true, cond_false, Prod.mk.injEq, List.cons.injEq, AV.int.injEq, AV.bool.injEq, AV.str.injEq, AV.agg.injEq, weakB_ints]; done)
  · rw [show k.toNat = gs.length by omega, List.drop_length]
    simp [Tree.ok, tyd_inj, packAV, AV.same, AV.same.sameL, encV, encS, enc, inK, Nd.ok, List.headD_cons, List.cons_append, List.nil_append, List.append_nil, true_and, and_true, Bool.true_and, Bool.and_true, loop_next, weakBs_nil, weakBs_cons, weakB_self, weakB_row, weakB_int, weakL_nil, weakL_unk, weakL_guess, isRow_own, isRow_unk, weakL_int, weakL_bool, weakL_str, weakL_own, weakL_view, weakL_nilS, noRow_int, noRow_bool, own_inj, LTree.val, cond_true, cond_false, Prod.mk.injEq, List.cons.injEq, AV.int.injEq, AV.bool.injEq, AV.str.injEq, AV.agg.injEq, buildGo, weakB_ints]
theorem loops_iItemsOfScore : ∀ c, Try.f24.body = some c → LoopsOk Try.prog (addL (firstId (loopAt Try.f24 1)) ann_iItemsOfScore_1 (addL (firstId (loopAt Try.f24 0)) ann_iItemsOfScore_0 noL)) Try.f24.ntmps c := loopsN fun i hi ann h => by
  have hn : loopN Try.f24 = 2 := by kernel_rfl
  rw [hn] at hi
  exact match i, hi, h with
    | 0, _, h => (Option.some.inj ((show (addL (firstId (loopAt Try.f24 1)) ann_iItemsOfScore_1 (addL (firstId (loopAt Try.f24 0)) ann_iItemsOfScore_0 noL)) (firstId (loopAt Try.f24 0)) = some ann_iItemsOfScore_0 from by kernel_rfl).symm.trans h)) ▸ loop_iItemsOfScore_0
    | 1, _, h => (Option.some.inj ((show (addL (firstId (loopAt Try.f24 1)) ann_iItemsOfScore_1 (addL (firstId (loopAt Try.f24 0)) ann_iItemsOfScore_0 noL)) (firstId (loopAt Try.f24 1)) = some ann_iItemsOfScore_1 from by kernel_rfl).symm.trans h)) ▸ loop_iItemsOfScore_1
set_option maxHeartbeats 1000000 in
theorem sat_iItemsOfScore : Sat Try.prog 24 ct_iItemsOfScore := by
  refine sat_typed (C := (addC 900000000 ctDeep C_Ji)) (L := (addL (firstId (loopAt Try.f24 1)) ann_iItemsOfScore_1 (addL (firstId (loopAt Try.f24 0)) ann_iItemsOfScore_0 noL))) (wr := false) mixedOk Try.func24 (addC_ok C_Ji_ok sat_deep) (loops_iItemsOfScore) (fun _ => by first | rfl | (simp [ownsOf, ownsOf.ownsL, enc, encV, encS])) fun x hp => ?_
  obtain ⟨(xs : List tNote.den), (ch : Int), _⟩ := x
  replace hp : (xs.length : Int) ≤ 9223372036854775807 := hp
  have htree : exFunc Try.prog (addC 900000000 ctDeep C_Ji) false (addL (firstId (loopAt Try.f24 1)) ann_iItemsOfScore_1 (addL (firstId (loopAt Try.f24 0)) ann_iItemsOfScore_0 noL)) Try.f24 (encA [.s qNote, .v (.int .i64)] (xs, ch, ())) = .need ((↑xs.length : Int) ≤ (9223372036854775807 : Int)) (.ite (!scoreF xs) (.leaf [.nilS, .int .i64 ((1 : Int))]) (.ite (!inB ch (0 : Int) (15 : Int)) (.leaf [.nilS, .int .i64 ((2 : Int))]) (.need (xs.length ≤ (60 : Nat)) (.need ((chG ch xs []).length ≤ (60 : Nat) ∧ ∀ (g : qNote.den), g ∈ chG ch xs [] → gOk2 g) (.ite (!areB (chG ch xs [])) (.leaf [.nilS, .int .i64 ((6 : Int))]) (.need ((((0 : Int) ≤ (0 : Int) ∧ (0 : Int) ≤ (↑(chG ch xs []).length : Int)) ∧ (↑(chG ch xs []).length : Int) = (↑(chG ch xs []).length : Int) ∧ (↑(chG ch xs []).length : Int) ≤ (60 : Int) ∧ (↑(0 : Nat) : Int) ≤ (3 : Int) * (0 : Int)) ∧ ∀ (g : (((Ty.int IntKind.i64).pair (Ty.int IntKind.i64)).pair (((Ty.int IntKind.i64).pair (Ty.int IntKind.i64)).pair ((Ty.int IntKind.i64).pair ((Ty.int IntKind.i64).pair (Ty.int IntKind.i64))))).seq.den), g ∈ chG ch xs [] → gOk2 g) (.ite (decide ((buildGo (List.drop (Int.toNat (0 : Int)) (chG ch xs [])) (0 : Int) (1 : Int) (80 : Int)).snd = (0 : Int))) (.ite (decide ((80 : Int) < (↑([] ++ (buildGo (List.drop (Int.toNat (0 : Int)) (chG ch xs [])) (0 : Int) (1 : Int) (80 : Int)).fst).length : Int))) (.leaf [.nilS, .int .i64 ((5 : Int))]) (.leaf [.own (tItem.deep) ([] ++ (buildGo (List.drop (Int.toNat (0 : Int)) (chG ch xs [])) (0 : Int) (1 : Int) (80 : Int)).fst), .int .i64 ((0 : Int))])) (.leaf [.nilS, .int .i64 ((buildGo (List.drop (Int.toNat (0 : Int)) (chG ch xs [])) (0 : Int) (1 : Int) (80 : Int)).snd)])))))))) := by kernel_rfl
  refine (congrArg (Tree.ok _) htree).mpr ?_
  clear htree
  have hsc := fun h => @chG_score xs h ch
  simp only [Tree.ok, tyd_inj, packAV, AV.same, AV.same.sameL, encV, encS, enc, inK, Nd.ok, List.headD_cons, List.cons_append, List.nil_append, List.append_nil, true_and, and_true, Bool.true_and, Bool.and_true, implI, implC, show (0 : Int).toNat = 0 from rfl, List.drop_zero, List.nil_append, decide_eq_true_eq, decide_eq_false_iff_not, Bool.not_eq_true', Bool.not_eq_false']
  generalize hgs : chG ch xs [] = gs at *
  generalize buildGo gs 0 1 80 = R at *
  obtain ⟨R1, R2⟩ := R
  dsimp only at *
  cases hs : scoreF xs
  · simp only [Bool.false_eq_true, if_false]
    repeat' first | apply And.intro | intro _
    all_goals first | exact hp | trivial | rfl | contradiction | (simp_all; done)
  · obtain ⟨g1, g2, g3⟩ := hsc hs
    cases inB ch 0 15 <;> cases areB gs <;> by_cases h0 : R2 = 0 <;> by_cases h8 : 80 < (R1.length : Int)
    all_goals
      simp only [h0, h8, Bool.false_eq_true, if_false, if_true]
      repeat' first | apply And.intro | intro _
      all_goals first | omega | assumption | exact hp | exact g3 _ ‹_› | trivial | rfl | contradiction | (simp_all; done)
def C_Jj_1 : FuncId → Option Ct := addC 24 ct_iItemsOfScore C_Ji
theorem C_Jj_1_ok : COk Try.prog C_Jj_1 := addC_ok C_Ji_ok sat_iItemsOfScore

def C_Jj : FuncId → Option Ct := C_Jj_1
theorem C_Jj_ok : COk Try.prog C_Jj := C_Jj_1_ok
end Go.Proofs.Ytemlpimibhijoaa
