/- Contracts: flat lists of items, their rows their own. Conditions: as each says. -/
import Derived.Test.YtemlpimibhijoaaJm
set_option linter.unusedSimpArgs false
set_option linter.unusedVariables false
namespace Go.Proofs.Ytemlpimibhijoaa
open Go.RowKit Sx
set_option maxRecDepth 100000
set_option maxHeartbeats 1000000
def ann_flattenD_0 : LAnn := { sameS := [0], modS := [2, 3, 4, 5], sameH := [], modH := [], base := 900000, nilE := [], nilB := [], G := fun
  | ⟨[.view (.pair (.int .i64) (.pair (.seq (.pair (.int .i64) (.pair (.int .i64) (.int .i64)))) (.pair (.pair (.int .i64) (.int .i64)) (.pair (.int .i64) (.pair (.pair (.int .i64) (.int .i64)) (.int .i64)))))) l], [], [.nilS, .int .i64 c, .own (.deep (.pair (.int .i64) (.pair (.seq (.pair (.int .i64) (.pair (.int .i64) (.int .i64)))) (.pair (.pair (.int .i64) (.int .i64)) (.pair (.int .i64) (.pair (.pair (.int .i64) (.int .i64)) (.int .i64))))))) out, .int .i64 i], []⟩ => some (.p (((0 ≤ i ∧ i ≤ (l.length : Int)) ∧ l.length ≤ 80 ∧ (out.length : Int) ≤ 512 * i) ∧ ∃ d : Int, 0 ≤ d ∧ d ≤ 3 ∧ vl (l.drop i.toNat) d), .ite ((flatR (l.drop i.toNat)).2) (.leaf (.exit 0) [.nilS, .int .i64 c, .own tItemD (out ++ (flatR (l.drop i.toNat)).1), .unk] []) (.leaf .ret [.nilS, .int .i64 2, .guess True, .unk] []))
  | _ => none }
def ann_flattenD_1 : LAnn := { sameS := [0, 2, 4, 5, 6, 48], modS := [3, 7, 8, 49], sameH := [6, 900002], modH := [], base := 950000, nilE := [], nilB := [], G := fun
  | ⟨[.view (.pair (.int .i64) (.pair (.seq (.pair (.int .i64) (.pair (.int .i64) (.int .i64)))) (.pair (.pair (.int .i64) (.int .i64)) (.pair (.int .i64) (.pair (.pair (.int .i64) (.int .i64)) (.int .i64)))))) l, .nilS, .row 900002, .int .i64 i, .ptr 6 0, .int .i64 n], [.box [.int .i64 x1, .view (.pair (.int .i64) (.pair (.int .i64) (.int .i64))) ps, .int .i64 a, .int .i64 b, .int .i64 v, .int .i64 m1, .int .i64 m2, .int .i64 z], .row (.deep (.pair (.int .i64) (.pair (.seq (.pair (.int .i64) (.pair (.int .i64) (.int .i64)))) (.pair (.pair (.int .i64) (.int .i64)) (.pair (.int .i64) (.pair (.pair (.int .i64) (.int .i64)) (.int .i64))))))) out], [.int .i64 c, .own (.pair (.int .i64) (.pair (.seq (.pair (.int .i64) (.pair (.int .i64) (.int .i64)))) (.pair (.pair (.int .i64) (.int .i64)) (.pair (.int .i64) (.pair (.pair (.int .i64) (.int .i64)) (.int .i64)))))) ms, .int .i64 d, .int .i64 k], []⟩ => some (.p (((0 ≤ k ∧ k ≤ n) ∧ n = (ms.length : Int) ∧ n ≤ 100000) ∧ okI m1 m2 = true ∧ ∀ y ∈ ms, gdI y), .ite ((ms.drop k.toNat).all (okIt m1 m2)) (.leaf (.exit 2) [.int .i64 c, .own tItem (ms.take k.toNat ++ (ms.drop k.toNat).map (mvIt m1 m2)), .unk, .unk] []) (.leaf .ret [.int .i64 2, .guess True, .unk, .unk] []))
  | _ => none }
def ann_flattenD_2 : LAnn := { sameS := [0, 2, 3, 5, 6, 71], modS := [4, 7, 72], sameH := [6], modH := [], base := 960000, nilE := [], nilB := [], G := fun
  | ⟨[.view (.pair (.int .i64) (.pair (.seq (.pair (.int .i64) (.pair (.int .i64) (.int .i64)))) (.pair (.pair (.int .i64) (.int .i64)) (.pair (.int .i64) (.pair (.pair (.int .i64) (.int .i64)) (.int .i64)))))) l, .nilS, .int .i64 c, .int .i64 i, .ptr 6 0, .int .i64 n], [.box [.int .i64 x1, .view (.pair (.int .i64) (.pair (.int .i64) (.int .i64))) ps, .int .i64 a, .int .i64 b, .int .i64 v, .int .i64 m1, .int .i64 m2, .int .i64 z]], [.own (.deep (.pair (.int .i64) (.pair (.seq (.pair (.int .i64) (.pair (.int .i64) (.int .i64)))) (.pair (.pair (.int .i64) (.int .i64)) (.pair (.int .i64) (.pair (.pair (.int .i64) (.int .i64)) (.int .i64))))))) out, .own (.pair (.int .i64) (.pair (.seq (.pair (.int .i64) (.pair (.int .i64) (.int .i64)))) (.pair (.pair (.int .i64) (.int .i64)) (.pair (.int .i64) (.pair (.pair (.int .i64) (.int .i64)) (.int .i64)))))) ms, .int .i64 r], []⟩ => some (.p (((0 ≤ r ∧ r ≤ n) ∧ n ≤ 8 ∧ (out.length : Int) + (n - r) * (ms.length : Int) ≤ 1000000) ∧ ∀ y ∈ ms, gdI y), .leaf (.exit 4) [.own tItemD (out ++ repL (n - r).toNat ms), .own tItem ms, .unk] [])
  | _ => none }
def ann_flattenD_3 : LAnn := { sameS := [0, 2, 3, 5, 6, 7, 71, 72, 74, 75], modS := [4, 76], sameH := [6, 960001], modH := [], base := 970000, nilE := [], nilB := [], G := fun
  | ⟨[.view (.pair (.int .i64) (.pair (.seq (.pair (.int .i64) (.pair (.int .i64) (.int .i64)))) (.pair (.pair (.int .i64) (.int .i64)) (.pair (.int .i64) (.pair (.pair (.int .i64) (.int .i64)) (.int .i64)))))) l, .nilS, .int .i64 c, .int .i64 i, .ptr 6 0, .row 960001, .int .i64 n, .int .i64 r, .row 960001, .int .i64 q], [.box [.int .i64 x1, .view (.pair (.int .i64) (.pair (.int .i64) (.int .i64))) ps, .int .i64 a, .int .i64 b, .int .i64 v, .int .i64 m1, .int .i64 m2, .int .i64 z], .row (.pair (.int .i64) (.pair (.seq (.pair (.int .i64) (.pair (.int .i64) (.int .i64)))) (.pair (.pair (.int .i64) (.int .i64)) (.pair (.int .i64) (.pair (.pair (.int .i64) (.int .i64)) (.int .i64)))))) ms], [.own (.deep (.pair (.int .i64) (.pair (.seq (.pair (.int .i64) (.pair (.int .i64) (.int .i64)))) (.pair (.pair (.int .i64) (.int .i64)) (.pair (.int .i64) (.pair (.pair (.int .i64) (.int .i64)) (.int .i64))))))) out, .int .i64 k], []⟩ => some (.p (((0 ≤ k ∧ k ≤ q) ∧ q = (ms.length : Int) ∧ q ≤ 2000000 ∧ (out.length : Int) + (q - k) ≤ 2000000) ∧ ∀ y ∈ ms, gdI y), .leaf (.exit 6) [.own tItemD (out ++ ms.drop k.toNat), .unk] [])
  | _ => none }
def ct_flattenD : Ct := ctOf [.v qItem] (fun ((l : List tItem.den), _) => .p (l.length ≤ 80 ∧ ∃ d : Int, 0 ≤ d ∧ d ≤ 3 ∧ vl l d)) (fun ((l : List tItem.den), _) => .tup [.own tItemD (flatV l).1, .int .i64 (flatV l).2])
set_option maxHeartbeats 1000000 in
theorem loop_flattenD_3 : LoopSat Try.prog Try.f83.ntmps (loopAt Try.f83 3) ann_flattenD_3 := by
  refine loopSat_of (C := (addC 900000000 ctDeep C_Jm)) (L := (addL (firstId (loopAt Try.f83 3)) ann_flattenD_3 (addL (firstId (loopAt Try.f83 2)) ann_flattenD_2 (addL (firstId (loopAt Try.f83 1)) ann_flattenD_1 (addL (firstId (loopAt Try.f83 0)) ann_flattenD_0 noL))))) (wr := false) mixedOk (addC_ok C_Jm_ok sat_deep) (loopsIn0 (by kernel_rfl)) (fun d => match d.same, d.vals with | [_, _, _, _, _, _, _, _, _, .int _ q], [_, .int _ k] => (q - k).toNat | _, _ => 0) fun d p t hG hp => ?_
  simp only [ann_flattenD_3] at hG
  split at hG
  rotate_left
  · simp at hG
  rename_i l c i n r q x1 ps a b v m1 m2 z ms out k
  simp only [Option.some.injEq, Prod.mk.injEq] at hG
  obtain ⟨rfl, rfl⟩ := hG
  have htree : exRound Try.prog (addC 900000000 ctDeep C_Jm) false (addL (firstId (loopAt Try.f83 3)) ann_flattenD_3 (addL (firstId (loopAt Try.f83 2)) ann_flattenD_2 (addL (firstId (loopAt Try.f83 1)) ann_flattenD_1 (addL (firstId (loopAt Try.f83 0)) ann_flattenD_0 noL)))) Try.f83.ntmps ann_flattenD_3 (loopAt Try.f83 3) ⟨[.view tItem l, .nilS, .int .i64 c, .int .i64 i, .ptr 6 0, .row 960001, .int .i64 n, .int .i64 r, .row 960001, .int .i64 q], [.box [.int .i64 x1, .view tPitch ps, .int .i64 a, .int .i64 b, .int .i64 v, .int .i64 m1, .int .i64 m2, .int .i64 z], .row tItem ms], [.own tItemD out, .int .i64 k], []⟩ = .ite (decide (k < q)) (.need ((0 : Int) ≤ k ∧ k < (↑ms.length : Int)) (.need (k.toNat < ms.length) (.need (List.length (ms.getD k.toNat tItem.zero).snd.fst ≤ (16777216 : Nat)) (.need (out.length + [((ms.getD k.toNat tItem.zero).fst, (ms.getD k.toNat tItem.zero).snd.fst, ((ms.getD k.toNat tItem.zero).snd.snd.fst.fst, (ms.getD k.toNat tItem.zero).snd.snd.fst.snd), (ms.getD k.toNat tItem.zero).snd.snd.snd.fst, ((ms.getD k.toNat tItem.zero).snd.snd.snd.snd.fst.fst, (ms.getD k.toNat tItem.zero).snd.snd.snd.snd.fst.snd), (ms.getD k.toNat tItem.zero).snd.snd.snd.snd.snd)].length ≤ (16777216 : Nat)) (.need (inK IntKind.i64 (k + (1 : Int))) (.leaf (.normal, ⟨[.view (I64.pair (tPitch.seq.pair (tFrac.pair (I64.pair (tIv.pair I64))))) (l), .nilS, .int .i64 (c), .int .i64 (i), .ptr 6 0, .row 960001, .int .i64 (n), .int .i64 (r), .row 960001, .int .i64 (q)], [.box [.int .i64 (x1), .view (I64.pair (I64.pair I64)) (ps), .int .i64 (a), .int .i64 (b), .int .i64 (v), .int .i64 (m1), .int .i64 (m2), .int .i64 (z)], .row (I64.pair (tPitch.seq.pair (tFrac.pair (I64.pair (tIv.pair I64))))) (ms)], [.own (tItem.deep) (out ++ [((ms.getD k.toNat tItem.zero).fst, (ms.getD k.toNat tItem.zero).snd.fst, ((ms.getD k.toNat tItem.zero).snd.snd.fst.fst, (ms.getD k.toNat tItem.zero).snd.snd.fst.snd), (ms.getD k.toNat tItem.zero).snd.snd.snd.fst, ((ms.getD k.toNat tItem.zero).snd.snd.snd.snd.fst.fst, (ms.getD k.toNat tItem.zero).snd.snd.snd.snd.fst.snd), (ms.getD k.toNat tItem.zero).snd.snd.snd.snd.snd)]), .int .i64 (k + (1 : Int))], []⟩))))))) (.leaf ((.exit 6), ⟨[.view (I64.pair (tPitch.seq.pair (tFrac.pair (I64.pair (tIv.pair I64))))) (l), .nilS, .int .i64 (c), .int .i64 (i), .ptr 6 0, .row 960001, .int .i64 (n), .int .i64 (r), .row 960001, .int .i64 (q)], [.box [.int .i64 (x1), .view (I64.pair (I64.pair I64)) (ps), .int .i64 (a), .int .i64 (b), .int .i64 (v), .int .i64 (m1), .int .i64 (m2), .int .i64 (z)], .row (I64.pair (tPitch.seq.pair (tFrac.pair (I64.pair (tIv.pair I64))))) (ms)], [.own (tItem.deep) (out), .int .i64 (k)], []⟩)) := by kernel_rfl
  rw [htree]
  clear htree
  replace hp : ((0 ≤ k ∧ k ≤ q) ∧ q = (ms.length : Int) ∧ q ≤ 2000000 ∧ (out.length : Int) + (q - k) ≤ 2000000) ∧ ∀ y ∈ ms, gdI y := hp
  obtain ⟨⟨hk, hq, hq2, hl⟩, hg⟩ := hp
  simp only [Tree.ok, tyd_inj, packAV, AV.same, AV.same.sameL, encV, encS, enc, inK, Nd.ok, List.headD_cons, List.cons_append, List.nil_append, List.append_nil, true_and, and_true, Bool.true_and, Bool.and_true, loop_next, weakBs_nil, weakBs_cons, weakB_self, weakB_row, weakB_int, weakL_nil, weakL_unk, weakL_guess, isRow_own, isRow_unk, weakL_int, weakL_bool, weakL_str, weakL_own, weakL_view, weakL_nilS, noRow_int, noRow_bool, own_inj, LTree.val, cond_true, cond_false, Prod.mk.injEq, List.cons.injEq, AV.int.injEq, AV.bool.injEq, AV.str.injEq, AV.agg.injEq, ann_flattenD_3, decide_eq_true_eq, decide_eq_false_iff_not]
  refine ⟨fun ha => ?_, fun ha => ?_⟩
  · have h1 := drop_at ms tItem.zero k.toNat (by omega)
    have hy := mem_at hg k.toNat tItem.zero (by omega)
    rw [show (k + 1).toNat = k.toNat + 1 by omega, h1]
    clear h1
    obtain ⟨K, P, A1, A2, V1, M1, M2, Z1, he⟩ := i8 (ms.getD k.toNat tItem.zero)
    simp only [he, List.length_append, List.length_cons, List.length_nil, List.append_assoc, List.singleton_append] at *
    have hy6 : P.length ≤ 6 := hy.4
    repeat' first | apply And.intro | intro _
    all_goals first | omega | assumption | trivial | exact hg _ ‹_› | rfl
  · rw [show k.toNat = ms.length by omega, List.drop_length]
    simp [Tree.ok, tyd_inj, packAV, AV.same, AV.same.sameL, encV, encS, enc, inK, Nd.ok, List.headD_cons, List.cons_append, List.nil_append, List.append_nil, true_and, and_true, Bool.true_and, Bool.and_true, loop_next, weakBs_nil, weakBs_cons, weakB_self, weakB_row, weakB_int, weakL_nil, weakL_unk, weakL_guess, isRow_own, isRow_unk, weakL_int, weakL_bool, weakL_str, weakL_own, weakL_view, weakL_nilS, noRow_int, noRow_bool, own_inj, LTree.val, cond_true, cond_false, Prod.mk.injEq, List.cons.injEq, AV.int.injEq, AV.bool.injEq, AV.str.injEq, AV.agg.injEq]
set_option maxHeartbeats 1000000 in
theorem loop_flattenD_2 : LoopSat Try.prog Try.f83.ntmps (loopAt Try.f83 2) ann_flattenD_2 := by
  refine loopSat_of (C := (addC 900000000 ctDeep C_Jm)) (L := (addL (firstId (loopAt Try.f83 3)) ann_flattenD_3 (addL (firstId (loopAt Try.f83 2)) ann_flattenD_2 (addL (firstId (loopAt Try.f83 1)) ann_flattenD_1 (addL (firstId (loopAt Try.f83 0)) ann_flattenD_0 noL))))) (wr := false) mixedOk (addC_ok C_Jm_ok sat_deep) (loopsIn1 (b := loopAt Try.f83 3) (by kernel_rfl) (fun ann h => (Option.some.inj ((show (addL (firstId (loopAt Try.f83 3)) ann_flattenD_3 (addL (firstId (loopAt Try.f83 2)) ann_flattenD_2 (addL (firstId (loopAt Try.f83 1)) ann_flattenD_1 (addL (firstId (loopAt Try.f83 0)) ann_flattenD_0 noL)))) (firstId (loopAt Try.f83 3)) = some ann_flattenD_3 from by kernel_rfl).symm.trans h)) ▸ loop_flattenD_3)) (fun d => match d.same, d.vals with | [_, _, _, _, _, .int _ n], [_, _, .int _ r] => (n - r).toNat | _, _ => 0) fun d p t hG hp => ?_
  simp only [ann_flattenD_2] at hG
  split at hG
  rotate_left
  · simp at hG
  rename_i l c i n x1 ps a b v m1 m2 z out ms r
  simp only [Option.some.injEq, Prod.mk.injEq] at hG
  obtain ⟨rfl, rfl⟩ := hG
  have htree : exRound Try.prog (addC 900000000 ctDeep C_Jm) false (addL (firstId (loopAt Try.f83 3)) ann_flattenD_3 (addL (firstId (loopAt Try.f83 2)) ann_flattenD_2 (addL (firstId (loopAt Try.f83 1)) ann_flattenD_1 (addL (firstId (loopAt Try.f83 0)) ann_flattenD_0 noL)))) Try.f83.ntmps ann_flattenD_2 (loopAt Try.f83 2) ⟨[.view tItem l, .nilS, .int .i64 c, .int .i64 i, .ptr 6 0, .int .i64 n], [.box [.int .i64 x1, .view tPitch ps, .int .i64 a, .int .i64 b, .int .i64 v, .int .i64 m1, .int .i64 m2, .int .i64 z]], [.own tItemD out, .own tItem ms, .int .i64 r], []⟩ = .ite (decide (r < n)) (.need ((((0 : Int) ≤ (0 : Int) ∧ (0 : Int) ≤ (↑ms.length : Int)) ∧ (↑ms.length : Int) = (↑ms.length : Int) ∧ (↑ms.length : Int) ≤ (2000000 : Int) ∧ (↑out.length : Int) + ((↑ms.length : Int) - (0 : Int)) ≤ (2000000 : Int)) ∧ ∀ (y : ((Ty.int IntKind.i64).pair (((Ty.int IntKind.i64).pair ((Ty.int IntKind.i64).pair (Ty.int IntKind.i64))).seq.pair (((Ty.int IntKind.i64).pair (Ty.int IntKind.i64)).pair ((Ty.int IntKind.i64).pair (((Ty.int IntKind.i64).pair (Ty.int IntKind.i64)).pair (Ty.int IntKind.i64)))))).den), y ∈ ms → gdI y) (.need (inK IntKind.i64 (r + (1 : Int))) (.leaf (.normal, ⟨[.view (I64.pair (tPitch.seq.pair (tFrac.pair (I64.pair (tIv.pair I64))))) (l), .nilS, .int .i64 (c), .int .i64 (i), .ptr 6 0, .int .i64 (n)], [.box [.int .i64 (x1), .view (I64.pair (I64.pair I64)) (ps), .int .i64 (a), .int .i64 (b), .int .i64 (v), .int .i64 (m1), .int .i64 (m2), .int .i64 (z)]], [.own (tItem.deep) (out ++ List.drop (Int.toNat (0 : Int)) ms), .own (I64.pair (tPitch.seq.pair (tFrac.pair (I64.pair (tIv.pair I64))))) (ms), .int .i64 (r + (1 : Int))], []⟩)))) (.leaf ((.exit 4), ⟨[.view (I64.pair (tPitch.seq.pair (tFrac.pair (I64.pair (tIv.pair I64))))) (l), .nilS, .int .i64 (c), .int .i64 (i), .ptr 6 0, .int .i64 (n)], [.box [.int .i64 (x1), .view (I64.pair (I64.pair I64)) (ps), .int .i64 (a), .int .i64 (b), .int .i64 (v), .int .i64 (m1), .int .i64 (m2), .int .i64 (z)]], [.own (tItem.deep) (out), .own (I64.pair (tPitch.seq.pair (tFrac.pair (I64.pair (tIv.pair I64))))) (ms), .int .i64 (r)], []⟩)) := by kernel_rfl
  rw [htree]
  clear htree
  replace hp : ((0 ≤ r ∧ r ≤ n) ∧ n ≤ 8 ∧ (out.length : Int) + (n - r) * (ms.length : Int) ≤ 1000000) ∧ ∀ y ∈ ms, gdI y := hp
  obtain ⟨⟨hr, h8, hl⟩, hg⟩ := hp
  simp only [Tree.ok, tyd_inj, packAV, AV.same, AV.same.sameL, encV, encS, enc, inK, Nd.ok, List.headD_cons, List.cons_append, List.nil_append, List.append_nil, true_and, and_true, Bool.true_and, Bool.and_true, loop_next, weakBs_nil, weakBs_cons, weakB_self, weakB_row, weakB_int, weakL_nil, weakL_unk, weakL_guess, isRow_own, isRow_unk, weakL_int, weakL_bool, weakL_str, weakL_own, weakL_view, weakL_nilS, noRow_int, noRow_bool, own_inj, LTree.val, cond_true, cond_false, Prod.mk.injEq, List.cons.injEq, AV.int.injEq, AV.bool.injEq, AV.str.injEq, AV.agg.injEq, ann_flattenD_2, decide_eq_true_eq, decide_eq_false_iff_not, Int.toNat_zero, List.drop_zero, Int.sub_zero, List.length_append, Int.natCast_add]
  refine ⟨fun ha => ?_, fun ha => ?_⟩
  · have h1 := repL_step n r ha ms
    have e : (n - r) * (ms.length : Int) = (n - (r + 1)) * (ms.length : Int) + (ms.length : Int) := by rw [show n - r = (n - (r + 1)) + 1 by omega, Int.add_mul, Int.one_mul]
    have e2 : 0 ≤ (n - (r + 1)) * (ms.length : Int) := Int.mul_nonneg (by omega) (by omega)
    rw [h1, List.append_assoc]
    generalize (n - (r + 1)) * (ms.length : Int) = N at *
    generalize (n - r) * (ms.length : Int) = N' at *
    repeat' first | apply And.intro | intro _
    all_goals first | omega | assumption | trivial | exact hg _ ‹_› | rfl
  · rw [show (n - r).toNat = 0 by omega]
    simp [Tree.ok, tyd_inj, packAV, AV.same, AV.same.sameL, encV, encS, enc, inK, Nd.ok, List.headD_cons, List.cons_append, List.nil_append, List.append_nil, true_and, and_true, Bool.true_and, Bool.and_true, loop_next, weakBs_nil, weakBs_cons, weakB_self, weakB_row, weakB_int, weakL_nil, weakL_unk, weakL_guess, isRow_own, isRow_unk, weakL_int, weakL_bool, weakL_str, weakL_own, weakL_view, weakL_nilS, noRow_int, noRow_bool, own_inj, LTree.val, cond_true, cond_false, Prod.mk.injEq, List.cons.injEq, AV.int.injEq, AV.bool.injEq, AV.str.injEq, AV.agg.injEq, repL]
set_option maxHeartbeats 1000000 in
theorem loop_flattenD_1 : LoopSat Try.prog Try.f83.ntmps (loopAt Try.f83 1) ann_flattenD_1 := by
  refine loopSat_of (C := (addC 900000000 ctDeep C_Jm)) (L := (addL (firstId (loopAt Try.f83 3)) ann_flattenD_3 (addL (firstId (loopAt Try.f83 2)) ann_flattenD_2 (addL (firstId (loopAt Try.f83 1)) ann_flattenD_1 (addL (firstId (loopAt Try.f83 0)) ann_flattenD_0 noL))))) (wr := false) mixedOk (addC_ok C_Jm_ok sat_deep) (loopsIn0 (by kernel_rfl)) (fun d => match d.same, d.vals with | [_, _, _, _, _, .int _ n], [_, _, _, .int _ k] => (n - k).toNat | _, _ => 0) fun d p t hG hp => ?_
  simp only [ann_flattenD_1] at hG
  split at hG
  rotate_left
  · simp at hG
  rename_i l i n x1 ps a b v m1 m2 z out c ms d k
  simp only [Option.some.injEq, Prod.mk.injEq] at hG
  obtain ⟨rfl, rfl⟩ := hG
  have htree : exRound Try.prog (addC 900000000 ctDeep C_Jm) false (addL (firstId (loopAt Try.f83 3)) ann_flattenD_3 (addL (firstId (loopAt Try.f83 2)) ann_flattenD_2 (addL (firstId (loopAt Try.f83 1)) ann_flattenD_1 (addL (firstId (loopAt Try.f83 0)) ann_flattenD_0 noL)))) Try.f83.ntmps ann_flattenD_1 (loopAt Try.f83 1) ⟨[.view tItem l, .nilS, .row 900002, .int .i64 i, .ptr 6 0, .int .i64 n], [.box [.int .i64 x1, .view tPitch ps, .int .i64 a, .int .i64 b, .int .i64 v, .int .i64 m1, .int .i64 m2, .int .i64 z], .row tItemD out], [.int .i64 c, .own tItem ms, .int .i64 d, .int .i64 k], []⟩ = .ite (decide (k < n)) (.need ((0 : Int) ≤ k ∧ k < (↑ms.length : Int)) (.need (k.toNat < ms.length) (.need (okI m1 m2 = true ∧ (∀ (p : tPitch.den), p ∈ (ms.getD k.toNat tItem.zero).snd.fst → okPt p = true) ∧ List.length (ms.getD k.toNat tItem.zero).snd.fst ≤ (6 : Nat)) (.need ((0 : Int) ≤ k ∧ k < (↑ms.length : Int)) (.need (k.toNat < ms.length) (.ite ((movedV m1 m2 ((ms.getD k.toNat tItem.zero).fst, (ms.getD k.toNat tItem.zero).snd.fst, ((ms.getD k.toNat tItem.zero).snd.snd.fst.fst, (ms.getD k.toNat tItem.zero).snd.snd.fst.snd), (ms.getD k.toNat tItem.zero).snd.snd.snd.fst, ((ms.getD k.toNat tItem.zero).snd.snd.snd.snd.fst.fst, (ms.getD k.toNat tItem.zero).snd.snd.snd.snd.fst.snd), (ms.getD k.toNat tItem.zero).snd.snd.snd.snd.snd)).snd != (0 : Int)) (.leaf (.ret, ⟨[.view (I64.pair (tPitch.seq.pair (tFrac.pair (I64.pair (tIv.pair I64))))) (l), .nilS, .row 900002, .int .i64 (i), .ptr 6 0, .int .i64 (n)], [.box [.int .i64 (x1), .view (I64.pair (I64.pair I64)) (ps), .int .i64 (a), .int .i64 (b), .int .i64 (v), .int .i64 (m1), .int .i64 (m2), .int .i64 (z)], .row (tItem.deep) (out)], [.int .i64 ((movedV m1 m2 ((ms.getD k.toNat tItem.zero).fst, (ms.getD k.toNat tItem.zero).snd.fst, ((ms.getD k.toNat tItem.zero).snd.snd.fst.fst, (ms.getD k.toNat tItem.zero).snd.snd.fst.snd), (ms.getD k.toNat tItem.zero).snd.snd.snd.fst, ((ms.getD k.toNat tItem.zero).snd.snd.snd.snd.fst.fst, (ms.getD k.toNat tItem.zero).snd.snd.snd.snd.fst.snd), (ms.getD k.toNat tItem.zero).snd.snd.snd.snd.snd)).snd), .own (I64.pair (tPitch.seq.pair (tFrac.pair (I64.pair (tIv.pair I64))))) (ms.set k.toNat ((movedV m1 m2 ((ms.getD k.toNat tItem.zero).fst, (ms.getD k.toNat tItem.zero).snd.fst, ((ms.getD k.toNat tItem.zero).snd.snd.fst.fst, (ms.getD k.toNat tItem.zero).snd.snd.fst.snd), (ms.getD k.toNat tItem.zero).snd.snd.snd.fst, ((ms.getD k.toNat tItem.zero).snd.snd.snd.snd.fst.fst, (ms.getD k.toNat tItem.zero).snd.snd.snd.snd.fst.snd), (ms.getD k.toNat tItem.zero).snd.snd.snd.snd.snd)).fst.fst, (movedV m1 m2 ((ms.getD k.toNat tItem.zero).fst, (ms.getD k.toNat tItem.zero).snd.fst, ((ms.getD k.toNat tItem.zero).snd.snd.fst.fst, (ms.getD k.toNat tItem.zero).snd.snd.fst.snd), (ms.getD k.toNat tItem.zero).snd.snd.snd.fst, ((ms.getD k.toNat tItem.zero).snd.snd.snd.snd.fst.fst, (ms.getD k.toNat tItem.zero).snd.snd.snd.snd.fst.snd), (ms.getD k.toNat tItem.zero).snd.snd.snd.snd.snd)).fst.snd.fst, ((movedV m1 m2 ((ms.getD k.toNat tItem.zero).fst, (ms.getD k.toNat tItem.zero).snd.fst, ((ms.getD k.toNat tItem.zero).snd.snd.fst.fst, (ms.getD k.toNat tItem.zero).snd.snd.fst.snd), (ms.getD k.toNat tItem.zero).snd.snd.snd.fst, ((ms.getD k.toNat tItem.zero).snd.snd.snd.snd.fst.fst, (ms.getD k.toNat tItem.zero).snd.snd.snd.snd.fst.snd), (ms.getD k.toNat tItem.zero).snd.snd.snd.snd.snd)).fst.snd.snd.fst.fst, (movedV m1 m2 ((ms.getD k.toNat tItem.zero).fst, (ms.getD k.toNat tItem.zero).snd.fst, ((ms.getD k.toNat tItem.zero).snd.snd.fst.fst, (ms.getD k.toNat tItem.zero).snd.snd.fst.snd), (ms.getD k.toNat tItem.zero).snd.snd.snd.fst, ((ms.getD k.toNat tItem.zero).snd.snd.snd.snd.fst.fst, (ms.getD k.toNat tItem.zero).snd.snd.snd.snd.fst.snd), (ms.getD k.toNat tItem.zero).snd.snd.snd.snd.snd)).fst.snd.snd.fst.snd), (movedV m1 m2 ((ms.getD k.toNat tItem.zero).fst, (ms.getD k.toNat tItem.zero).snd.fst, ((ms.getD k.toNat tItem.zero).snd.snd.fst.fst, (ms.getD k.toNat tItem.zero).snd.snd.fst.snd), (ms.getD k.toNat tItem.zero).snd.snd.snd.fst, ((ms.getD k.toNat tItem.zero).snd.snd.snd.snd.fst.fst, (ms.getD k.toNat tItem.zero).snd.snd.snd.snd.fst.snd), (ms.getD k.toNat tItem.zero).snd.snd.snd.snd.snd)).fst.snd.snd.snd.fst, ((movedV m1 m2 ((ms.getD k.toNat tItem.zero).fst, (ms.getD k.toNat tItem.zero).snd.fst, ((ms.getD k.toNat tItem.zero).snd.snd.fst.fst, (ms.getD k.toNat tItem.zero).snd.snd.fst.snd), (ms.getD k.toNat tItem.zero).snd.snd.snd.fst, ((ms.getD k.toNat tItem.zero).snd.snd.snd.snd.fst.fst, (ms.getD k.toNat tItem.zero).snd.snd.snd.snd.fst.snd), (ms.getD k.toNat tItem.zero).snd.snd.snd.snd.snd)).fst.snd.snd.snd.snd.fst.fst, (movedV m1 m2 ((ms.getD k.toNat tItem.zero).fst, (ms.getD k.toNat tItem.zero).snd.fst, ((ms.getD k.toNat tItem.zero).snd.snd.fst.fst, (ms.getD k.toNat tItem.zero).snd.snd.fst.snd), (ms.getD k.toNat tItem.zero).snd.snd.snd.fst, ((ms.getD k.toNat tItem.zero).snd.snd.snd.snd.fst.fst, (ms.getD k.toNat tItem.zero).snd.snd.snd.snd.fst.snd), (ms.getD k.toNat tItem.zero).snd.snd.snd.snd.snd)).fst.snd.snd.snd.snd.fst.snd), (movedV m1 m2 ((ms.getD k.toNat tItem.zero).fst, (ms.getD k.toNat tItem.zero).snd.fst, ((ms.getD k.toNat tItem.zero).snd.snd.fst.fst, (ms.getD k.toNat tItem.zero).snd.snd.fst.snd), (ms.getD k.toNat tItem.zero).snd.snd.snd.fst, ((ms.getD k.toNat tItem.zero).snd.snd.snd.snd.fst.fst, (ms.getD k.toNat tItem.zero).snd.snd.snd.snd.fst.snd), (ms.getD k.toNat tItem.zero).snd.snd.snd.snd.snd)).fst.snd.snd.snd.snd.snd)), .int .i64 ((movedV m1 m2 ((ms.getD k.toNat tItem.zero).fst, (ms.getD k.toNat tItem.zero).snd.fst, ((ms.getD k.toNat tItem.zero).snd.snd.fst.fst, (ms.getD k.toNat tItem.zero).snd.snd.fst.snd), (ms.getD k.toNat tItem.zero).snd.snd.snd.fst, ((ms.getD k.toNat tItem.zero).snd.snd.snd.snd.fst.fst, (ms.getD k.toNat tItem.zero).snd.snd.snd.snd.fst.snd), (ms.getD k.toNat tItem.zero).snd.snd.snd.snd.snd)).snd), .int .i64 (k)], []⟩)) (.need (inK IntKind.i64 (k + (1 : Int))) (.leaf (.normal, ⟨[.view (I64.pair (tPitch.seq.pair (tFrac.pair (I64.pair (tIv.pair I64))))) (l), .nilS, .row 900002, .int .i64 (i), .ptr 6 0, .int .i64 (n)], [.box [.int .i64 (x1), .view (I64.pair (I64.pair I64)) (ps), .int .i64 (a), .int .i64 (b), .int .i64 (v), .int .i64 (m1), .int .i64 (m2), .int .i64 (z)], .row (tItem.deep) (out)], [.int .i64 (c), .own (I64.pair (tPitch.seq.pair (tFrac.pair (I64.pair (tIv.pair I64))))) (ms.set k.toNat ((movedV m1 m2 ((ms.getD k.toNat tItem.zero).fst, (ms.getD k.toNat tItem.zero).snd.fst, ((ms.getD k.toNat tItem.zero).snd.snd.fst.fst, (ms.getD k.toNat tItem.zero).snd.snd.fst.snd), (ms.getD k.toNat tItem.zero).snd.snd.snd.fst, ((ms.getD k.toNat tItem.zero).snd.snd.snd.snd.fst.fst, (ms.getD k.toNat tItem.zero).snd.snd.snd.snd.fst.snd), (ms.getD k.toNat tItem.zero).snd.snd.snd.snd.snd)).fst.fst, (movedV m1 m2 ((ms.getD k.toNat tItem.zero).fst, (ms.getD k.toNat tItem.zero).snd.fst, ((ms.getD k.toNat tItem.zero).snd.snd.fst.fst, (ms.getD k.toNat tItem.zero).snd.snd.fst.snd), (ms.getD k.toNat tItem.zero).snd.snd.snd.fst, ((ms.getD k.toNat tItem.zero).snd.snd.snd.snd.fst.fst, (ms.getD k.toNat tItem.zero).snd.snd.snd.snd.fst.snd), (ms.getD k.toNat tItem.zero).snd.snd.snd.snd.snd)).fst.snd.fst, ((movedV m1 m2 ((ms.getD k.toNat tItem.zero).fst, (ms.getD k.toNat tItem.zero).snd.fst, ((ms.getD k.toNat tItem.zero).snd.snd.fst.fst, (ms.getD k.toNat tItem.zero).snd.snd.fst.snd), (ms.getD k.toNat tItem.zero).snd.snd.snd.fst, ((ms.getD k.toNat tItem.zero).snd.snd.snd.snd.fst.fst, (ms.getD k.toNat tItem.zero).snd.snd.snd.snd.fst.snd), (ms.getD k.toNat tItem.zero).snd.snd.snd.snd.snd)).fst.snd.snd.fst.fst, (movedV m1 m2 ((ms.getD k.toNat tItem.zero).fst, (ms.getD k.toNat tItem.zero).snd.fst, ((ms.getD k.toNat tItem.zero).snd.snd.fst.fst, (ms.getD k.toNat tItem.zero).snd.snd.fst.snd), (ms.getD k.toNat tItem.zero).snd.snd.snd.fst, ((ms.getD k.toNat tItem.zero).snd.snd.snd.snd.fst.fst, (ms.getD k.toNat tItem.zero).snd.snd.snd.snd.fst.snd), (ms.getD k.toNat tItem.zero).snd.snd.snd.snd.snd)).fst.snd.snd.fst.snd), (movedV m1 m2 ((ms.getD k.toNat tItem.zero).fst, (ms.getD k.toNat tItem.zero).snd.fst, ((ms.getD k.toNat tItem.zero).snd.snd.fst.fst, (ms.getD k.toNat tItem.zero).snd.snd.fst.snd), (ms.getD k.toNat tItem.zero).snd.snd.snd.fst, ((ms.getD k.toNat tItem.zero).snd.snd.snd.snd.fst.fst, (ms.getD k.toNat tItem.zero).snd.snd.snd.snd.fst.snd), (ms.getD k.toNat tItem.zero).snd.snd.snd.snd.snd)).fst.snd.snd.snd.fst, ((movedV m1 m2 ((ms.getD k.toNat tItem.zero).fst, (ms.getD k.toNat tItem.zero).snd.fst, ((ms.getD k.toNat tItem.zero).snd.snd.fst.fst, (ms.getD k.toNat tItem.zero).snd.snd.fst.snd), (ms.getD k.toNat tItem.zero).snd.snd.snd.fst, ((ms.getD k.toNat tItem.zero).snd.snd.snd.snd.fst.fst, (ms.getD k.toNat tItem.zero).snd.snd.snd.snd.fst.snd), (ms.getD k.toNat tItem.zero).snd.snd.snd.snd.snd)).fst.snd.snd.snd.snd.fst.fst, (movedV m1 m2 ((ms.getD k.toNat tItem.zero).fst, (ms.getD k.toNat tItem.zero).snd.fst, ((ms.getD k.toNat tItem.zero).snd.snd.fst.fst, (ms.getD k.toNat tItem.zero).snd.snd.fst.snd), (ms.getD k.toNat tItem.zero).snd.snd.snd.fst, ((ms.getD k.toNat tItem.zero).snd.snd.snd.snd.fst.fst, (ms.getD k.toNat tItem.zero).snd.snd.snd.snd.fst.snd), (ms.getD k.toNat tItem.zero).snd.snd.snd.snd.snd)).fst.snd.snd.snd.snd.fst.snd), (movedV m1 m2 ((ms.getD k.toNat tItem.zero).fst, (ms.getD k.toNat tItem.zero).snd.fst, ((ms.getD k.toNat tItem.zero).snd.snd.fst.fst, (ms.getD k.toNat tItem.zero).snd.snd.fst.snd), (ms.getD k.toNat tItem.zero).snd.snd.snd.fst, ((ms.getD k.toNat tItem.zero).snd.snd.snd.snd.fst.fst, (ms.getD k.toNat tItem.zero).snd.snd.snd.snd.fst.snd), (ms.getD k.toNat tItem.zero).snd.snd.snd.snd.snd)).fst.snd.snd.snd.snd.snd)), .int .i64 ((movedV m1 m2 ((ms.getD k.toNat tItem.zero).fst, (ms.getD k.toNat tItem.zero).snd.fst, ((ms.getD k.toNat tItem.zero).snd.snd.fst.fst, (ms.getD k.toNat tItem.zero).snd.snd.fst.snd), (ms.getD k.toNat tItem.zero).snd.snd.snd.fst, ((ms.getD k.toNat tItem.zero).snd.snd.snd.snd.fst.fst, (ms.getD k.toNat tItem.zero).snd.snd.snd.snd.fst.snd), (ms.getD k.toNat tItem.zero).snd.snd.snd.snd.snd)).snd), .int .i64 (k + (1 : Int))], []⟩))))))))) (.leaf ((.exit 2), ⟨[.view (I64.pair (tPitch.seq.pair (tFrac.pair (I64.pair (tIv.pair I64))))) (l), .nilS, .row 900002, .int .i64 (i), .ptr 6 0, .int .i64 (n)], [.box [.int .i64 (x1), .view (I64.pair (I64.pair I64)) (ps), .int .i64 (a), .int .i64 (b), .int .i64 (v), .int .i64 (m1), .int .i64 (m2), .int .i64 (z)], .row (tItem.deep) (out)], [.int .i64 (c), .own (I64.pair (tPitch.seq.pair (tFrac.pair (I64.pair (tIv.pair I64))))) (ms), .int .i64 (d), .int .i64 (k)], []⟩)) := by kernel_rfl
  rw [htree]
  clear htree
  replace hp : ((0 ≤ k ∧ k ≤ n) ∧ n = (ms.length : Int) ∧ n ≤ 100000) ∧ okI m1 m2 = true ∧ ∀ y ∈ ms, gdI y := hp
  obtain ⟨⟨hk, hn, h5⟩, hi, hg⟩ := hp
  simp only [Tree.ok, tyd_inj, packAV, AV.same, AV.same.sameL, encV, encS, enc, inK, Nd.ok, List.headD_cons, List.cons_append, List.nil_append, List.append_nil, true_and, and_true, Bool.true_and, Bool.and_true, loop_next, weakBs_nil, weakBs_cons, weakB_self, weakB_row, weakB_int, weakL_nil, weakL_unk, weakL_guess, isRow_own, isRow_unk, weakL_int, weakL_bool, weakL_str, weakL_own, weakL_view, weakL_nilS, noRow_int, noRow_bool, own_inj, LTree.val, cond_true, cond_false, Prod.mk.injEq, List.cons.injEq, AV.int.injEq, AV.bool.injEq, AV.str.injEq, AV.agg.injEq, ann_flattenD_1, decide_eq_true_eq, decide_eq_false_iff_not, bne_iff_ne, ne_eq, bne_eq_false_iff_eq]
  refine ⟨fun ha => ?_, fun ha => ?_⟩
  · have h1 := all_at (okIt m1 m2) ms tItem.zero k.toNat (by omega)
    have h2 := map_at (mvIt m1 m2) ms tItem.zero k.toNat (by omega)
    have hy := mem_at hg k.toNat tItem.zero (by omega)
    rw [show (k + 1).toNat = k.toNat + 1 by omega, h1, h2]
    clear h1 h2
    have h3 := fun e => set_take ms k.toNat e (by omega)
    have h4 := set_drop ms k.toNat
    obtain ⟨K, P, A1, A2, V1, M1, M2, Z1, he⟩ := i8 (ms.getD k.toNat tItem.zero)
    simp only [he, movedV_eq] at *
    have hm := @gd_mvIt m1 m2 _ hy
    have hms := @mem_set It gdI ms k.toNat _ hg hm
    cases hc : okIt m1 m2 (K, P, (A1, A2), V1, (M1, M2), Z1)
    · simp only [hc, Bool.false_eq_true, if_false, Bool.false_and]
      repeat' first | apply And.intro | intro _
      all_goals first | omega | assumption | trivial | exact hy.3 _ ‹_› | exact hy.4 | (simp [Tree.ok, tyd_inj, packAV, AV.same, AV.same.sameL, encV, encS, enc, inK, Nd.ok, List.headD_cons, List.cons_append, List.nil_append, List.append_nil, true_and, and_true, Bool.true_and, Bool.and_true, loop_next, weakBs_nil, weakBs_cons, weakB_self, weakB_row, weakB_int, weakL_nil, weakL_unk, weakL_guess, isRow_own, isRow_unk, weakL_int, weakL_bool, weakL_str, weakL_own, weakL_view, weakL_nilS, noRow_int, noRow_bool, own_inj, LTree.val, cond_true, cond_false, Prod.mk.injEq, List.cons.injEq, AV.int.injEq, AV.bool.injEq, AV.str.injEq, AV.agg.injEq]; done) | (simp_all; done)
    · simp only [hc, if_true, Bool.true_and, h3, h4, List.append_assoc, List.singleton_append]
      repeat' first | apply And.intro | intro _
      all_goals first | omega | assumption | trivial | exact hy.3 _ ‹_› | exact hy.4 | exact hms _ ‹_› | rfl | (simp [Tree.ok, tyd_inj, packAV, AV.same, AV.same.sameL, encV, encS, enc, inK, Nd.ok, List.headD_cons, List.cons_append, List.nil_append, List.append_nil, true_and, and_true, Bool.true_and, Bool.and_true, loop_next, weakBs_nil, weakBs_cons, weakB_self, weakB_row, weakB_int, weakL_nil, weakL_unk, weakL_guess, isRow_own, isRow_unk, weakL_int, weakL_bool, weakL_str, weakL_own, weakL_view, weakL_nilS, noRow_int, noRow_bool, own_inj, LTree.val, cond_true, cond_false, Prod.mk.injEq, List.cons.injEq, AV.int.injEq, AV.bool.injEq, AV.str.injEq, AV.agg.injEq]; done) | (simp_all; done)
  · rw [show k.toNat = ms.length by omega, List.drop_length]
    simp [Tree.ok, tyd_inj, packAV, AV.same, AV.same.sameL, encV, encS, enc, inK, Nd.ok, List.headD_cons, List.cons_append, List.nil_append, List.append_nil, true_and, and_true, Bool.true_and, Bool.and_true, loop_next, weakBs_nil, weakBs_cons, weakB_self, weakB_row, weakB_int, weakL_nil, weakL_unk, weakL_guess, isRow_own, isRow_unk, weakL_int, weakL_bool, weakL_str, weakL_own, weakL_view, weakL_nilS, noRow_int, noRow_bool, own_inj, LTree.val, cond_true, cond_false, Prod.mk.injEq, List.cons.injEq, AV.int.injEq, AV.bool.injEq, AV.str.injEq, AV.agg.injEq]
set_option maxHeartbeats 1000000 in
theorem loop_flattenD_0 : LoopSat Try.prog Try.f83.ntmps (loopAt Try.f83 0) ann_flattenD_0 := by
  refine loopSat_of (C := (addC 900000000 ctDeep C_Jm)) (L := (addL (firstId (loopAt Try.f83 3)) ann_flattenD_3 (addL (firstId (loopAt Try.f83 2)) ann_flattenD_2 (addL (firstId (loopAt Try.f83 1)) ann_flattenD_1 (addL (firstId (loopAt Try.f83 0)) ann_flattenD_0 noL))))) (wr := false) mixedOk (addC_ok C_Jm_ok sat_deep) (loopsInL (bs := [loopAt Try.f83 1, loopAt Try.f83 2, loopAt Try.f83 3]) (by kernel_rfl) (LoopsL.cons (fun ann h => (Option.some.inj ((show (addL (firstId (loopAt Try.f83 3)) ann_flattenD_3 (addL (firstId (loopAt Try.f83 2)) ann_flattenD_2 (addL (firstId (loopAt Try.f83 1)) ann_flattenD_1 (addL (firstId (loopAt Try.f83 0)) ann_flattenD_0 noL)))) (firstId (loopAt Try.f83 1)) = some ann_flattenD_1 from by kernel_rfl).symm.trans h)) ▸ loop_flattenD_1) (LoopsL.cons (fun ann h => (Option.some.inj ((show (addL (firstId (loopAt Try.f83 3)) ann_flattenD_3 (addL (firstId (loopAt Try.f83 2)) ann_flattenD_2 (addL (firstId (loopAt Try.f83 1)) ann_flattenD_1 (addL (firstId (loopAt Try.f83 0)) ann_flattenD_0 noL)))) (firstId (loopAt Try.f83 2)) = some ann_flattenD_2 from by kernel_rfl).symm.trans h)) ▸ loop_flattenD_2) (LoopsL.cons (fun ann h => (Option.some.inj ((show (addL (firstId (loopAt Try.f83 3)) ann_flattenD_3 (addL (firstId (loopAt Try.f83 2)) ann_flattenD_2 (addL (firstId (loopAt Try.f83 1)) ann_flattenD_1 (addL (firstId (loopAt Try.f83 0)) ann_flattenD_0 noL)))) (firstId (loopAt Try.f83 3)) = some ann_flattenD_3 from by kernel_rfl).symm.trans h)) ▸ loop_flattenD_3) (LoopsL.nil))))) (fun d => match d.same, d.vals with | [.view _ l], [_, _, _, .int _ i] => ((l.length : Int) - i).toNat | _, _ => 0) fun d p t hG hp => ?_
  simp only [ann_flattenD_0] at hG
  split at hG
  rotate_left
  · simp at hG
  rename_i l c out i
  simp only [Option.some.injEq, Prod.mk.injEq] at hG
  obtain ⟨rfl, rfl⟩ := hG
  have htree : exRound Try.prog (addC 900000000 ctDeep C_Jm) false (addL (firstId (loopAt Try.f83 3)) ann_flattenD_3 (addL (firstId (loopAt Try.f83 2)) ann_flattenD_2 (addL (firstId (loopAt Try.f83 1)) ann_flattenD_1 (addL (firstId (loopAt Try.f83 0)) ann_flattenD_0 noL)))) Try.f83.ntmps ann_flattenD_0 (loopAt Try.f83 0) ⟨[.view tItem l], [], [.nilS, .int .i64 c, .own tItemD out, .int .i64 i], []⟩ = .ite (decide (i < (↑l.length : Int))) (.need ((0 : Int) ≤ i ∧ i < (↑l.length : Int)) (.ite (!(decide ((getT tItem l i).fst = (4 : Int)) || decide ((getT tItem l i).fst = (5 : Int)))) (.need (List.length (getT tItem l i).snd.fst ≤ (16777216 : Nat)) (.need (out.length + [((getT tItem l i).fst, (getT tItem l i).snd.fst, ((getT tItem l i).snd.snd.fst.fst, (getT tItem l i).snd.snd.fst.snd), (getT tItem l i).snd.snd.snd.fst, ((getT tItem l i).snd.snd.snd.snd.fst.fst, (getT tItem l i).snd.snd.snd.snd.fst.snd), (getT tItem l i).snd.snd.snd.snd.snd)].length ≤ (16777216 : Nat)) (.need (inK IntKind.i64 (i + (1 : Int))) (.leaf (.normal, ⟨[.view (I64.pair (tPitch.seq.pair (tFrac.pair (I64.pair (tIv.pair I64))))) (l)], [], [.nilS, .int .i64 (c), .own (tItem.deep) (out ++ [((getT tItem l i).fst, (getT tItem l i).snd.fst, ((getT tItem l i).snd.snd.fst.fst, (getT tItem l i).snd.snd.fst.snd), (getT tItem l i).snd.snd.snd.fst, ((getT tItem l i).snd.snd.snd.snd.fst.fst, (getT tItem l i).snd.snd.snd.snd.fst.snd), (getT tItem l i).snd.snd.snd.snd.snd)]), .int .i64 (i + (1 : Int))], []⟩))))) (.need (((0 : Int) ≤ i ∧ i < (↑l.length : Int)) ∧ l.length ≤ (1000 : Nat) ∧ (0 : Int) ≤ szB (l.getD i.toNat tItem.zero) ∧ szB (l.getD i.toNat tItem.zero) ≤ (↑l.length : Int) - (i + (1 : Int))) (.need ((List.take (szN (l.getD i.toNat tItem.zero)) (List.drop (i.toNat + (1 : Nat)) l)).length ≤ (80 : Nat) ∧ ∃ (d : Int), (0 : Int) ≤ d ∧ d ≤ (3 : Int) ∧ vl (List.take (szN (l.getD i.toNat tItem.zero)) (List.drop (i.toNat + (1 : Nat)) l)) d) (.ite ((flatV (List.take (szN (l.getD i.toNat tItem.zero)) (List.drop (i.toNat + (1 : Nat)) l))).snd != (0 : Int)) (.leaf (.ret, ⟨[.view (I64.pair (tPitch.seq.pair (tFrac.pair (I64.pair (tIv.pair I64))))) (l)], [], [.nilS, .int .i64 ((flatV (List.take (szN (l.getD i.toNat tItem.zero)) (List.drop (i.toNat + (1 : Nat)) l))).snd), .own (tItem.deep) (out), .int .i64 (i)], []⟩)) (.ite ((getT tItem l i).fst == (5 : Int)) (.need ((((0 : Int) ≤ (0 : Int) ∧ (0 : Int) ≤ (↑(List.length (flatV (List.take (szN (l.getD i.toNat tItem.zero)) (List.drop (i.toNat + (1 : Nat)) l))).fst) : Int)) ∧ (↑(List.length (flatV (List.take (szN (l.getD i.toNat tItem.zero)) (List.drop (i.toNat + (1 : Nat)) l))).fst) : Int) = (↑(List.length (flatV (List.take (szN (l.getD i.toNat tItem.zero)) (List.drop (i.toNat + (1 : Nat)) l))).fst) : Int) ∧ (↑(List.length (flatV (List.take (szN (l.getD i.toNat tItem.zero)) (List.drop (i.toNat + (1 : Nat)) l))).fst) : Int) ≤ (100000 : Int)) ∧ okI (getT tItem l i).snd.snd.snd.snd.fst.fst (getT tItem l i).snd.snd.snd.snd.fst.snd = true ∧ ∀ (y : ((Ty.int IntKind.i64).pair (((Ty.int IntKind.i64).pair ((Ty.int IntKind.i64).pair (Ty.int IntKind.i64))).seq.pair (((Ty.int IntKind.i64).pair (Ty.int IntKind.i64)).pair ((Ty.int IntKind.i64).pair (((Ty.int IntKind.i64).pair (Ty.int IntKind.i64)).pair (Ty.int IntKind.i64)))))).den), y ∈ (flatV (List.take (szN (l.getD i.toNat tItem.zero)) (List.drop (i.toNat + (1 : Nat)) l))).fst → gdI y) (.ite ((List.drop (Int.toNat (0 : Int)) (flatV (List.take (szN (l.getD i.toNat tItem.zero)) (List.drop (i.toNat + (1 : Nat)) l))).fst).all (okIt (getT tItem l i).snd.snd.snd.snd.fst.fst (getT tItem l i).snd.snd.snd.snd.fst.snd)) (.need ((((0 : Int) ≤ (0 : Int) ∧ (0 : Int) ≤ bif true then max (1 : Int) (getT tItem l i).snd.snd.snd.fst else min (1 : Int) (getT tItem l i).snd.snd.snd.fst) ∧ (bif true then max (1 : Int) (getT tItem l i).snd.snd.snd.fst else min (1 : Int) (getT tItem l i).snd.snd.snd.fst) ≤ (8 : Int) ∧ (↑out.length : Int) + ((bif true then max (1 : Int) (getT tItem l i).snd.snd.snd.fst else min (1 : Int) (getT tItem l i).snd.snd.snd.fst) - (0 : Int)) * (↑(List.take (Int.toNat (0 : Int)) (flatV (List.take (szN (l.getD i.toNat tItem.zero)) (List.drop (i.toNat + (1 : Nat)) l))).fst ++ List.map (mvIt (getT tItem l i).snd.snd.snd.snd.fst.fst (getT tItem l i).snd.snd.snd.snd.fst.snd) (List.drop (Int.toNat (0 : Int)) (flatV (List.take (szN (l.getD i.toNat tItem.zero)) (List.drop (i.toNat + (1 : Nat)) l))).fst)).length : Int) ≤ (1000000 : Int)) ∧ ∀ (y : ((Ty.int IntKind.i64).pair (((Ty.int IntKind.i64).pair ((Ty.int IntKind.i64).pair (Ty.int IntKind.i64))).seq.pair (((Ty.int IntKind.i64).pair (Ty.int IntKind.i64)).pair ((Ty.int IntKind.i64).pair (((Ty.int IntKind.i64).pair (Ty.int IntKind.i64)).pair (Ty.int IntKind.i64)))))).den), y ∈ List.take (Int.toNat (0 : Int)) (flatV (List.take (szN (l.getD i.toNat tItem.zero)) (List.drop (i.toNat + (1 : Nat)) l))).fst ++ List.map (mvIt (getT tItem l i).snd.snd.snd.snd.fst.fst (getT tItem l i).snd.snd.snd.snd.fst.snd) (List.drop (Int.toNat (0 : Int)) (flatV (List.take (szN (l.getD i.toNat tItem.zero)) (List.drop (i.toNat + (1 : Nat)) l))).fst) → gdI y) (.need (inK IntKind.i64 (i + (getT tItem l i).snd.snd.snd.snd.snd)) (.need (inK IntKind.i64 (i + (getT tItem l i).snd.snd.snd.snd.snd + (1 : Int))) (.leaf (.normal, ⟨[.view (I64.pair (tPitch.seq.pair (tFrac.pair (I64.pair (tIv.pair I64))))) (l)], [], [.nilS, .int .i64 (c), .own (tItem.deep) (out ++ repL ((bif true then max (1 : Int) (getT tItem l i).snd.snd.snd.fst else min (1 : Int) (getT tItem l i).snd.snd.snd.fst) - (0 : Int)).toNat (List.take (Int.toNat (0 : Int)) (flatV (List.take (szN (l.getD i.toNat tItem.zero)) (List.drop (i.toNat + (1 : Nat)) l))).fst ++ List.map (mvIt (getT tItem l i).snd.snd.snd.snd.fst.fst (getT tItem l i).snd.snd.snd.snd.fst.snd) (List.drop (Int.toNat (0 : Int)) (flatV (List.take (szN (l.getD i.toNat tItem.zero)) (List.drop (i.toNat + (1 : Nat)) l))).fst))), .int .i64 (i + (getT tItem l i).snd.snd.snd.snd.snd + (1 : Int))], []⟩))))) (.leaf (.ret, ⟨[.view (I64.pair (tPitch.seq.pair (tFrac.pair (I64.pair (tIv.pair I64))))) (l)], [], [.nilS, .int .i64 ((2 : Int)), .own (tItem.deep) (out), .int .i64 (i)], []⟩)))) (.need ((((0 : Int) ≤ (0 : Int) ∧ (0 : Int) ≤ bif true then max (1 : Int) (getT tItem l i).snd.snd.snd.fst else min (1 : Int) (getT tItem l i).snd.snd.snd.fst) ∧ (bif true then max (1 : Int) (getT tItem l i).snd.snd.snd.fst else min (1 : Int) (getT tItem l i).snd.snd.snd.fst) ≤ (8 : Int) ∧ (↑out.length : Int) + ((bif true then max (1 : Int) (getT tItem l i).snd.snd.snd.fst else min (1 : Int) (getT tItem l i).snd.snd.snd.fst) - (0 : Int)) * (↑(List.length (flatV (List.take (szN (l.getD i.toNat tItem.zero)) (List.drop (i.toNat + (1 : Nat)) l))).fst) : Int) ≤ (1000000 : Int)) ∧ ∀ (y : ((Ty.int IntKind.i64).pair (((Ty.int IntKind.i64).pair ((Ty.int IntKind.i64).pair (Ty.int IntKind.i64))).seq.pair (((Ty.int IntKind.i64).pair (Ty.int IntKind.i64)).pair ((Ty.int IntKind.i64).pair (((Ty.int IntKind.i64).pair (Ty.int IntKind.i64)).pair (Ty.int IntKind.i64)))))).den), y ∈ (flatV (List.take (szN (l.getD i.toNat tItem.zero)) (List.drop (i.toNat + (1 : Nat)) l))).fst → gdI y) (.need (inK IntKind.i64 (i + (getT tItem l i).snd.snd.snd.snd.snd)) (.need (inK IntKind.i64 (i + (getT tItem l i).snd.snd.snd.snd.snd + (1 : Int))) (.leaf (.normal, ⟨[.view (I64.pair (tPitch.seq.pair (tFrac.pair (I64.pair (tIv.pair I64))))) (l)], [], [.nilS, .int .i64 (c), .own (tItem.deep) (out ++ repL ((bif true then max (1 : Int) (getT tItem l i).snd.snd.snd.fst else min (1 : Int) (getT tItem l i).snd.snd.snd.fst) - (0 : Int)).toNat (flatV (List.take (szN (l.getD i.toNat tItem.zero)) (List.drop (i.toNat + (1 : Nat)) l))).fst), .int .i64 (i + (getT tItem l i).snd.snd.snd.snd.snd + (1 : Int))], []⟩))))))))))) (.leaf ((.exit 0), ⟨[.view (I64.pair (tPitch.seq.pair (tFrac.pair (I64.pair (tIv.pair I64))))) (l)], [], [.nilS, .int .i64 (c), .own (tItem.deep) (out), .int .i64 (i)], []⟩)) := by kernel_rfl
  rw [htree]
  clear htree
  replace hp : ((0 ≤ i ∧ i ≤ (l.length : Int)) ∧ l.length ≤ 80 ∧ (out.length : Int) ≤ 512 * i) ∧ ∃ d : Int, 0 ≤ d ∧ d ≤ 3 ∧ vl (l.drop i.toNat) d := hp
  obtain ⟨hp, hv⟩ := hp
  simp only [Tree.ok, tyd_inj, packAV, AV.same, AV.same.sameL, encV, encS, enc, inK, Nd.ok, List.headD_cons, List.cons_append, List.nil_append, List.append_nil, true_and, and_true, Bool.true_and, Bool.and_true, loop_next, weakBs_nil, weakBs_cons, weakB_self, weakB_row, weakB_int, weakL_nil, weakL_unk, weakL_guess, isRow_own, isRow_unk, weakL_int, weakL_bool, weakL_str, weakL_own, weakL_view, weakL_nilS, noRow_int, noRow_bool, own_inj, LTree.val, cond_true, cond_false, Prod.mk.injEq, List.cons.injEq, AV.int.injEq, AV.bool.injEq, AV.str.injEq, AV.agg.injEq, ann_flattenD_0, decide_eq_true_eq, decide_eq_false_iff_not, bne_iff_ne, ne_eq, bne_eq_false_iff_eq, beq_iff_eq, beq_eq_false_iff_ne, Bool.not_eq_true', Bool.not_eq_false', Int.toNat_zero, List.drop_zero, List.take_zero, List.nil_append, Int.sub_zero]
  simp only [getT]
  refine ⟨fun ha => ?_, fun ha => ?_⟩
  · have h1 := flat_at l i.toNat (by omega)
    rcases place (l := l) (i := i.toNat) (by omega) hv with ⟨hg, hz, hs, hd⟩ | ⟨hg, hz, hs, hi, hd, hb1, hb2, hlen⟩
    · rw [if_neg (by rw [hg]; simp)] at h1
      rw [h1]
      clear h1
      have hgd := gd_of hs hg
      obtain ⟨k, ps, a, b, v, m1, m2, z, he⟩ := i8 (l.getD i.toNat tItem.zero)
      simp only [he, grpB, szB, szN, Bool.or_eq_false_iff, decide_eq_false_iff_not, List.length_append, List.length_cons, List.length_nil, List.append_assoc, List.singleton_append] at *
      have h6 : ps.length ≤ 6 := hgd.4
      rw [show (i + 1).toNat = i.toNat + 1 by omega]
      cases hf : (flatR (l.drop (i.toNat + 1))).2
      all_goals
        repeat' first | apply And.intro | intro _
        all_goals first | omega | assumption | trivial | rfl | (simp_all; done)
    · rw [if_pos hg] at h1
      rw [h1]
      clear h1
      have hfl := (itS_fields hs).1 hg
      obtain ⟨d, d0, d3, hi⟩ := hi
      have hgd := flat_gd d0 d3 hi
      have hln := flat_len d0 d3 hi
      have hi : ∃ d : Int, 0 ≤ d ∧ d ≤ 3 ∧ vl ((l.drop (i.toNat + 1)).take (szN (l.getD i.toNat tItem.zero))) d := ⟨d, d0, d3, hi⟩
      clear d0 d3
      obtain ⟨k, ps, a, b, v, m1, m2, z, he⟩ := i8 (l.getD i.toNat tItem.zero)
      simp only [he, grpB, szB, szN, mulB, flatV_eq, Bool.or_eq_true, decide_eq_true_eq] at *
      rw [show (i + z + 1).toNat = i.toNat + 1 + z.toNat by omega]
      generalize (l.drop (i.toNat + 1)).take z.toNat = S at *
      generalize flatR S = F at *
      generalize flatR (l.drop (i.toNat + 1 + z.toNat)) = R at *
      obtain ⟨F, fb⟩ := F
      obtain ⟨R, rb⟩ := R
      dsimp only at *
      rw [hfl.2.1]
      rw [← hln] at hb1 hb2
      have hM := hfl.1
      have hI := hfl.2.2
      clear hfl hln
      have hgb : (decide (k = 4) || decide (k = 5)) = true := by simpa using hg
      simp only [hgb, Bool.true_eq_false, false_implies, true_implies, true_and]
      have h4 := @mvL_five k ps a b v m1 m2 z
      have h5 := @mvL_not k ps a b v m1 m2 z
      have hrl := fun (G : Its) => repL_len (if k = 4 then v else 1).toNat G
      have hML := fun (G : Its) (h : 0 ≤ (if k = 4 then v else 1)) => show (((if k = 4 then v else 1).toNat * G.length : Nat) : Int) = (if k = 4 then v else 1) * (G.length : Int) by rw [Int.natCast_mul, Int.toNat_of_nonneg h]
      generalize (if k = 4 then v else 1) = M at *
      have hMF := hML F (by omega)
      have hmm : ∀ y ∈ F.map (mvIt m1 m2), gdI y := fun y hy => by
        simp only [List.mem_map] at hy
        obtain ⟨q, hq, rfl⟩ := hy
        exact gd_mvIt (hgd q hq)
      clear hML
      cases fb
      · simp only [Bool.false_eq_true, if_false, Bool.false_and]
        repeat' first | apply And.intro | intro _
        all_goals first | omega | assumption | trivial | (simp [Tree.ok, tyd_inj, packAV, AV.same, AV.same.sameL, encV, encS, enc, inK, Nd.ok, List.headD_cons, List.cons_append, List.nil_append, List.append_nil, true_and, and_true, Bool.true_and, Bool.and_true, loop_next, weakBs_nil, weakBs_cons, weakB_self, weakB_row, weakB_int, weakL_nil, weakL_unk, weakL_guess, isRow_own, isRow_unk, weakL_int, weakL_bool, weakL_str, weakL_own, weakL_view, weakL_nilS, noRow_int, noRow_bool, own_inj, LTree.val, cond_true, cond_false, Prod.mk.injEq, List.cons.injEq, AV.int.injEq, AV.bool.injEq, AV.str.injEq, AV.agg.injEq]; done) | (simp [*]; done) | skip
      · simp only [if_true, Bool.true_and]
        by_cases hk : k = 5
        · simp only [h4 hk, hrl, List.length_append, List.length_map, Int.natCast_add]
          generalize hQ : M * (F.length : Int) = Q at *
          cases hc : F.all (okIt m1 m2)
          · simp only [Bool.false_and]
            repeat' first | apply And.intro | intro _
            all_goals first | omega | assumption | trivial | exact hgd _ ‹_› | exact hI hk | (simp [Tree.ok, tyd_inj, packAV, AV.same, AV.same.sameL, encV, encS, enc, inK, Nd.ok, List.headD_cons, List.cons_append, List.nil_append, List.append_nil, true_and, and_true, Bool.true_and, Bool.and_true, loop_next, weakBs_nil, weakBs_cons, weakB_self, weakB_row, weakB_int, weakL_nil, weakL_unk, weakL_guess, isRow_own, isRow_unk, weakL_int, weakL_bool, weakL_str, weakL_own, weakL_view, weakL_nilS, noRow_int, noRow_bool, own_inj, LTree.val, cond_true, cond_false, Prod.mk.injEq, List.cons.injEq, AV.int.injEq, AV.bool.injEq, AV.str.injEq, AV.agg.injEq]; done) | (simp [*]; done) | skip
          · simp only [Bool.true_and]
            cases rb
            all_goals
              repeat' first | apply And.intro | intro _
              all_goals first | omega | assumption | trivial | exact hgd _ ‹_› | exact hmm _ ‹_› | exact hI hk | (simp [Tree.ok, tyd_inj, packAV, AV.same, AV.same.sameL, encV, encS, enc, inK, Nd.ok, List.headD_cons, List.cons_append, List.nil_append, List.append_nil, true_and, and_true, Bool.true_and, Bool.and_true, loop_next, weakBs_nil, weakBs_cons, weakB_self, weakB_row, weakB_int, weakL_nil, weakL_unk, weakL_guess, isRow_own, isRow_unk, weakL_int, weakL_bool, weakL_str, weakL_own, weakL_view, weakL_nilS, noRow_int, noRow_bool, own_inj, LTree.val, cond_true, cond_false, Prod.mk.injEq, List.cons.injEq, AV.int.injEq, AV.bool.injEq, AV.str.injEq, AV.agg.injEq]; done) | (simp [*]; done) | skip
        · simp only [h5 hk, hrl, List.length_append, Int.natCast_add, Bool.true_and]
          generalize hQ : M * (F.length : Int) = Q at *
          cases rb
          all_goals
            repeat' first | apply And.intro | intro _
            all_goals first | omega | assumption | trivial | exact hgd _ ‹_› | (simp [Tree.ok, tyd_inj, packAV, AV.same, AV.same.sameL, encV, encS, enc, inK, Nd.ok, List.headD_cons, List.cons_append, List.nil_append, List.append_nil, true_and, and_true, Bool.true_and, Bool.and_true, loop_next, weakBs_nil, weakBs_cons, weakB_self, weakB_row, weakB_int, weakL_nil, weakL_unk, weakL_guess, isRow_own, isRow_unk, weakL_int, weakL_bool, weakL_str, weakL_own, weakL_view, weakL_nilS, noRow_int, noRow_bool, own_inj, LTree.val, cond_true, cond_false, Prod.mk.injEq, List.cons.injEq, AV.int.injEq, AV.bool.injEq, AV.str.injEq, AV.agg.injEq]; done) | (simp [*]; done) | skip
  · have e : flatR [] = ([], true) := rfl
    rw [show i.toNat = l.length by omega, List.drop_length, e]
    simp [Tree.ok, tyd_inj, packAV, AV.same, AV.same.sameL, encV, encS, enc, inK, Nd.ok, List.headD_cons, List.cons_append, List.nil_append, List.append_nil, true_and, and_true, Bool.true_and, Bool.and_true, loop_next, weakBs_nil, weakBs_cons, weakB_self, weakB_row, weakB_int, weakL_nil, weakL_unk, weakL_guess, isRow_own, isRow_unk, weakL_int, weakL_bool, weakL_str, weakL_own, weakL_view, weakL_nilS, noRow_int, noRow_bool, own_inj, LTree.val, cond_true, cond_false, Prod.mk.injEq, List.cons.injEq, AV.int.injEq, AV.bool.injEq, AV.str.injEq, AV.agg.injEq]
theorem loops_flattenD : ∀ c, Try.f83.body = some c → LoopsOk Try.prog (addL (firstId (loopAt Try.f83 3)) ann_flattenD_3 (addL (firstId (loopAt Try.f83 2)) ann_flattenD_2 (addL (firstId (loopAt Try.f83 1)) ann_flattenD_1 (addL (firstId (loopAt Try.f83 0)) ann_flattenD_0 noL)))) Try.f83.ntmps c := loopsN fun i hi ann h => by
  have hn : loopN Try.f83 = 4 := by kernel_rfl
  rw [hn] at hi
  exact match i, hi, h with
    | 0, _, h => (Option.some.inj ((show (addL (firstId (loopAt Try.f83 3)) ann_flattenD_3 (addL (firstId (loopAt Try.f83 2)) ann_flattenD_2 (addL (firstId (loopAt Try.f83 1)) ann_flattenD_1 (addL (firstId (loopAt Try.f83 0)) ann_flattenD_0 noL)))) (firstId (loopAt Try.f83 0)) = some ann_flattenD_0 from by kernel_rfl).symm.trans h)) ▸ loop_flattenD_0
    | 1, _, h => (Option.some.inj ((show (addL (firstId (loopAt Try.f83 3)) ann_flattenD_3 (addL (firstId (loopAt Try.f83 2)) ann_flattenD_2 (addL (firstId (loopAt Try.f83 1)) ann_flattenD_1 (addL (firstId (loopAt Try.f83 0)) ann_flattenD_0 noL)))) (firstId (loopAt Try.f83 1)) = some ann_flattenD_1 from by kernel_rfl).symm.trans h)) ▸ loop_flattenD_1
    | 2, _, h => (Option.some.inj ((show (addL (firstId (loopAt Try.f83 3)) ann_flattenD_3 (addL (firstId (loopAt Try.f83 2)) ann_flattenD_2 (addL (firstId (loopAt Try.f83 1)) ann_flattenD_1 (addL (firstId (loopAt Try.f83 0)) ann_flattenD_0 noL)))) (firstId (loopAt Try.f83 2)) = some ann_flattenD_2 from by kernel_rfl).symm.trans h)) ▸ loop_flattenD_2
    | 3, _, h => (Option.some.inj ((show (addL (firstId (loopAt Try.f83 3)) ann_flattenD_3 (addL (firstId (loopAt Try.f83 2)) ann_flattenD_2 (addL (firstId (loopAt Try.f83 1)) ann_flattenD_1 (addL (firstId (loopAt Try.f83 0)) ann_flattenD_0 noL)))) (firstId (loopAt Try.f83 3)) = some ann_flattenD_3 from by kernel_rfl).symm.trans h)) ▸ loop_flattenD_3
set_option maxHeartbeats 1000000 in
theorem sat_flattenD : Sat Try.prog 83 ct_flattenD := by
  refine sat_typed (C := (addC 900000000 ctDeep C_Jm)) (L := (addL (firstId (loopAt Try.f83 3)) ann_flattenD_3 (addL (firstId (loopAt Try.f83 2)) ann_flattenD_2 (addL (firstId (loopAt Try.f83 1)) ann_flattenD_1 (addL (firstId (loopAt Try.f83 0)) ann_flattenD_0 noL))))) (wr := false) mixedOk Try.func83 (addC_ok C_Jm_ok sat_deep) (loops_flattenD) (fun _ => by first | rfl | (simp [ownsOf, ownsOf.ownsL, enc, encV, encS])) fun x hp => ?_
  obtain ⟨(l : List tItem.den), _⟩ := x
  replace hp : l.length ≤ 80 ∧ ∃ d : Int, 0 ≤ d ∧ d ≤ 3 ∧ vl l d := hp
  have htree : exFunc Try.prog (addC 900000000 ctDeep C_Jm) false (addL (firstId (loopAt Try.f83 3)) ann_flattenD_3 (addL (firstId (loopAt Try.f83 2)) ann_flattenD_2 (addL (firstId (loopAt Try.f83 1)) ann_flattenD_1 (addL (firstId (loopAt Try.f83 0)) ann_flattenD_0 noL)))) Try.f83 (encA [.v qItem] (l, ())) = .need ((((0 : Int) ≤ (0 : Int) ∧ (0 : Int) ≤ (↑l.length : Int)) ∧ l.length ≤ (80 : Nat) ∧ (↑(0 : Nat) : Int) ≤ (512 : Int) * (0 : Int)) ∧ ∃ (d : Int), (0 : Int) ≤ d ∧ d ≤ (3 : Int) ∧ vl (List.drop (Int.toNat (0 : Int)) l) d) (.ite ((flatR (List.drop (Int.toNat (0 : Int)) l)).snd) (.leaf [.own (tItem.deep) ([] ++ (flatR (List.drop (Int.toNat (0 : Int)) l)).fst), .int .i64 ((0 : Int))]) (.leaf [.nilS, .int .i64 ((2 : Int))])) := by kernel_rfl
  refine (congrArg (Tree.ok _) htree).mpr ?_
  clear htree
  obtain ⟨h1, h2⟩ := hp
  simp only [Tree.ok, tyd_inj, packAV, AV.same, AV.same.sameL, encV, encS, enc, inK, Nd.ok, List.headD_cons, List.cons_append, List.nil_append, List.append_nil, true_and, and_true, Bool.true_and, Bool.and_true, flatV_eq, Int.toNat_zero, List.drop_zero, List.nil_append]
  cases hf : (flatR l).2
  all_goals
    simp only [Bool.false_eq_true, if_false, if_true]
    repeat' first | apply And.intro | intro _
    all_goals first | omega | assumption | trivial | rfl | contradiction | (simp_all; done)
def C_Jf_1 : FuncId → Option Ct := addC 83 ct_flattenD C_Jm
theorem C_Jf_1_ok : COk Try.prog C_Jf_1 := addC_ok C_Jm_ok sat_flattenD
def ct_flattenCodeD : Ct := ctOf [.v qItem] (fun ((l : List tItem.den), _) => .p (l.length ≤ 80 ∧ ∃ d : Int, 0 ≤ d ∧ d ≤ 3 ∧ vl l d)) (fun ((l : List tItem.den), _) => .tup [.own tItemD (flatC l).1, .int .i64 (flatC l).2])
set_option maxHeartbeats 1000000 in
theorem sat_flattenCodeD : Sat Try.prog 41 ct_flattenCodeD := by
  refine sat_typed (C := (addC 900000000 ctDeep C_Jf_1)) (L := noL) (wr := false) mixedOk Try.func41 (addC_ok C_Jf_1_ok sat_deep) (loops0 (by kernel_rfl)) (fun _ => by first | rfl | (simp [ownsOf, ownsOf.ownsL, enc, encV, encS])) fun x hp => ?_
  obtain ⟨(l : List tItem.den), _⟩ := x
  replace hp : l.length ≤ 80 ∧ ∃ d : Int, 0 ≤ d ∧ d ≤ 3 ∧ vl l d := hp
  have htree : exFunc Try.prog (addC 900000000 ctDeep C_Jf_1) false noL Try.f41 (encA [.v qItem] (l, ())) = .need (l.length ≤ (80 : Nat) ∧ ∃ (d : Int), (0 : Int) ≤ d ∧ d ≤ (3 : Int) ∧ vl l d) (.ite (decide ((80 : Int) < cntI l)) (.leaf [.nilS, .int .i64 ((5 : Int))]) (.need (l.length ≤ (80 : Nat) ∧ ∃ (d : Int), (0 : Int) ≤ d ∧ d ≤ (3 : Int) ∧ vl l d) (.leaf [.own (tItem.deep) ((flatV l).fst), .int .i64 ((flatV l).snd)]))) := by kernel_rfl
  refine (congrArg (Tree.ok _) htree).mpr ?_
  clear htree
  obtain ⟨h1, h2⟩ := hp
  simp only [Tree.ok, tyd_inj, packAV, AV.same, AV.same.sameL, encV, encS, enc, inK, Nd.ok, List.headD_cons, List.cons_append, List.nil_append, List.append_nil, true_and, and_true, Bool.true_and, Bool.and_true, flatC]
  by_cases hc : 80 < cntI l
  all_goals
    simp only [hc, if_true, if_false]
    repeat' first | apply And.intro | intro _
    all_goals first | omega | assumption | trivial | rfl | contradiction | (simp_all; done)
def C_Jf_2 : FuncId → Option Ct := addC 41 ct_flattenCodeD C_Jf_1
theorem C_Jf_2_ok : COk Try.prog C_Jf_2 := addC_ok C_Jf_1_ok sat_flattenCodeD
def ct_iFlattenItemsD : Ct := ctOf [.v qItem] (fun ((l : List tItem.den), _) => .p ((l.length : Int) ≤ 9223372036854775807 ∧ ∀ z ∈ l, pLen z.2.1 ≤ 9223372036854775807)) (fun ((l : List tItem.den), _) => .tup [.own tItemD (flatA l).1, .int .i64 (flatA l).2])
set_option maxHeartbeats 1000000 in
theorem sat_iFlattenItemsD : Sat Try.prog 17 ct_iFlattenItemsD := by
  refine sat_typed (C := (addC 900000000 ctDeep C_Jf_2)) (L := noL) (wr := false) mixedOk Try.func17 (addC_ok C_Jf_2_ok sat_deep) (loops0 (by kernel_rfl)) (fun _ => by first | rfl | (simp [ownsOf, ownsOf.ownsL, enc, encV, encS])) fun x hp => ?_
  obtain ⟨(l : List tItem.den), _⟩ := x
  replace hp : (l.length : Int) ≤ 9223372036854775807 ∧ ∀ z ∈ l, pLen z.2.1 ≤ 9223372036854775807 := hp
  have htree : exFunc Try.prog (addC 900000000 ctDeep C_Jf_2) false noL Try.f17 (encA [.v qItem] (l, ())) = .need ((↑l.length : Int) ≤ (9223372036854775807 : Int) ∧ ∀ (z : tItem.den), z ∈ l → pLen z.snd.fst ≤ (9223372036854775807 : Int)) (.ite (!(decide (l.length ≤ (80 : Nat)) && rngF l.length l (0 : Int))) (.leaf [.nilS, .int .i64 ((1 : Int))]) (.need (l.length ≤ (80 : Nat) ∧ ∃ (d : Int), (0 : Int) ≤ d ∧ d ≤ (3 : Int) ∧ vl l d) (.leaf [.own (tItem.deep) ((flatC l).fst), .int .i64 ((flatC l).snd)]))) := by kernel_rfl
  refine (congrArg (Tree.ok _) htree).mpr ?_
  clear htree
  have hv := @okItems_vl l
  have e : (decide (l.length ≤ 80) && rngF l.length l 0) = okItems l := rfl
  simp only [Tree.ok, tyd_inj, packAV, AV.same, AV.same.sameL, encV, encS, enc, inK, Nd.ok, List.headD_cons, List.cons_append, List.nil_append, List.append_nil, true_and, and_true, Bool.true_and, Bool.and_true, flatA, e]
  cases ho : okItems l
  all_goals
    simp only [Bool.false_eq_true, if_false, if_true]
    repeat' first | apply And.intro | intro _
    all_goals first | exact hp.1 | exact hp.2 _ ‹_› | exact (hv ho).1 | exact (hv ho).2 | trivial | rfl | contradiction | (simp_all; done)
def C_Jf_3 : FuncId → Option Ct := addC 17 ct_iFlattenItemsD C_Jf_2
theorem C_Jf_3_ok : COk Try.prog C_Jf_3 := addC_ok C_Jf_2_ok sat_iFlattenItemsD
theorem flatA_N (l : Its) : ∀ y ∈ (flatA l).1, itN y ≤ 6 := fun y hy => ((flatA_gd l).1 y hy).4
theorem itEnd_six : ∀ (xs : List tItem.den) (k : Int), (∀ z ∈ xs, itN z ≤ 6) → itEnd xs k ≤ k + 25 * (xs.length : Int)
  | [], _, _ => by simp [itEnd]
  | x :: xs, k, h => by
    have h1 := itEnd_six xs (k + 1 + 3 * (itN x : Int) + 1 + 1 + 1 + 1 + 1 + 1) fun z hz => h z (List.mem_cons_of_mem _ hz)
    have h2 := h x List.mem_cons_self
    simp only [itEnd, List.length_cons]
    omega
theorem itMark_N : ∀ (xs : List tItem.den) (k : Int), (∀ z ∈ xs, itN z ≤ 16777216) → ∀ z ∈ itMark xs k, itN z ≤ 16777216
  | [], _, _, z, hz => by simp [itMark] at hz
  | x :: xs, k, h, z, hz => by
    simp only [itMark, List.mem_cons] at hz
    rcases hz with rfl | hz
    · rw [mk_self]; exact h x List.mem_cons_self
    · exact itMark_N xs _ (fun z hz => h z (List.mem_cons_of_mem _ hz)) z hz
theorem itEnd_szF : ∀ (xs : List tItem.den) (n k : Int), 0 ≤ n → ¬ szIt xs n < 0 → itEnd xs k ≤ k + 7 * (xs.length : Int) + 3 * (n - szIt xs n)
  | [], n, k, _, _ => by simp [itEnd, szIt]
  | x :: xs, n, k, h0, h1 => by
    simp only [szIt] at h1 ⊢
    by_cases h2 : n - pLen x.2.1 < 0
    · rw [if_pos h2] at h1; omega
    · rw [if_neg h2] at h1 ⊢
      have h3 := itEnd_szF xs (n - pLen x.2.1) (k + 1 + 3 * (itN x : Int) + 1 + 1 + 1 + 1 + 1 + 1) (by omega) h1
      have h4 : (itN x : Int) = pLen x.2.1 := rfl
      simp only [itEnd, List.length_cons]
      omega
theorem pLen_itF {x : tItem.den} {N : Int} (h : pLen x.2.1 ≤ N) : (itN x : Int) ≤ N := h
theorem heldI_mark (xs : List tItem.den) (k : Int) : heldI (itMark xs k) k = itEnd xs k := by
  simp [heldI, mark_mark, mark_end]

def C_Jf : FuncId → Option Ct := C_Jf_3
theorem C_Jf_ok : COk Try.prog C_Jf := C_Jf_3_ok
end Go.Proofs.Ytemlpimibhijoaa
