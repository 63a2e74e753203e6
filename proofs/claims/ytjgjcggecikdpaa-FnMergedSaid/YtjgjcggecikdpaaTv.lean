/- The law on merged, cut and quantized scores. Conditions: as each says. -/
import Derived.Test.YtjgjcggecikdpaaQV
import Derived.Test.YtjgjcggecikdpaaDu
set_option linter.unusedSimpArgs false
set_option linter.unusedVariables false
namespace Go.Proofs.Ytjgjcggecikdpaa
open Go.RowKit Sx
set_option maxRecDepth 100000
set_option maxHeartbeats 1000000
def A2Sm (l : List Int) : List tNote.den := (scoreS (l, 0, 0) 12).1
def C_TvA : FuncId → Option Ct := addC 53 ct_iQuantize (addC 58 ct_iSortNotes (addC 55 ct_iCut (addC 54 ct_iMerge (addC 56 ct_iEndOfScore (addC 13 ct_a2Long (addC 15 ct_a2At C_Do))))))
theorem C_TvA_ok : COk Try.prog C_TvA := addC_ok (addC_ok (addC_ok (addC_ok (addC_ok (addC_ok (addC_ok C_Do_ok sat_a2At) sat_a2Long) sat_iEndOfScore) sat_iMerge) sat_iCut) sat_iSortNotes) sat_iQuantize
def C_TvB : FuncId → Option Ct := C_TvA
theorem C_TvB_ok : COk Try.prog C_TvB := C_TvA_ok
def ct_sCompareFracM : Ct := ctOf [.s tFrac, .s tFrac] (fun _ => .tt) (fun (((a : Int), (b : Int)), ((c : Int), (d : Int)), _) => .int .i64 (if okF a b = true ∧ okF c d = true then cmpF a b c d else 0))
set_option maxHeartbeats 1000000 in
theorem sat_sCompareFracM : Sat Try.prog 57 ct_sCompareFracM := by
  refine sat_typed (C := C_TvB) (L := noL) (wr := false) mixedOk Try.func57 C_TvB_ok (loops0 (by kernel_rfl)) (fun _ => by first | rfl | (simp [ownsOf, ownsOf.ownsL, enc, encV, encS])) fun x hp => ?_
  obtain ⟨⟨(a : Int), (b : Int)⟩, ⟨(c : Int), (d : Int)⟩, _⟩ := x
  clear hp
  have htree : exFunc Try.prog C_TvB false noL Try.f57 (encA [.s tFrac, .s tFrac] ((a, b), (c, d), ())) = .ite (!okF a b) (.leaf [.int .i64 ((0 : Int))]) (.ite (!okF c d) (.leaf [.int .i64 ((0 : Int))]) (.need ((((1 : Int) ≤ b ∧ b ≤ (1000000 : Int)) ∧ (-1000000000 : Int) ≤ a ∧ a ≤ (1000000000 : Int)) ∧ ((1 : Int) ≤ d ∧ d ≤ (1000000 : Int)) ∧ (-1000000000 : Int) ≤ c ∧ c ≤ (1000000000 : Int)) (.leaf [.int .i64 (cmpF a b c d)]))) := by kernel_rfl
  refine (congrArg (Tree.ok _) htree).mpr ?_
  clear htree
  have h1 := @okF_bd a b
  have h2 := @okF_bd c d
  simp only [Tree.ok, tyd_inj, packAV, AV.same, AV.same.sameL, encV, encS, enc, inK, Nd.ok, List.headD_cons, List.cons_append, List.nil_append, List.append_nil, true_and, and_true, Bool.true_and, Bool.and_true]
  repeat' first | apply And.intro | intro _
  all_goals first | omega | (simp_all; done) | (simp_all; omega) | grind
def C_Tv_1 : FuncId → Option Ct := addC 57 ct_sCompareFracM C_TvB
theorem C_Tv_1_ok : COk Try.prog C_Tv_1 := addC_ok C_TvB_ok sat_sCompareFracM
def ct_A2ScoreM : Ct := ctOf [.v (.seq (.int .u8))] (fun ((code : List (Ty.int .u8).den), _) => .p (bytesOk code)) (fun ((code : List (Ty.int .u8).den), _) => .agg [.own tNote (A2Sm code)])
set_option maxHeartbeats 1000000 in
theorem sat_A2ScoreM : Sat Try.prog 14 ct_A2ScoreM := by
  refine sat_typed (C := C_Tv_1) (L := noL) (wr := false) mixedOk Try.func14 C_Tv_1_ok (loops0 (by kernel_rfl)) (fun _ => by first | rfl | (simp [ownsOf, ownsOf.ownsL, enc, encV, encS])) fun x hp => ?_
  obtain ⟨(code : List (Ty.int .u8).den), _⟩ := x
  replace hp : bytesOk code := hp
  have htree : exFunc Try.prog C_Tv_1 false noL Try.f14 (encA [.v (.seq (.int .u8))] (code, ())) = .need (okS (code, (0 : I64.den), (0 : (Ty.int IntKind.u64).den)) (600000000 : Int) ∧ (0 : Int) ≤ (12 : Int) ∧ (12 : Int) ≤ (100 : Int)) (.leaf [.agg [.own (tFrac.pair (tFrac.pair (I64.pair (I64.pair I64)))) ((scoreS (code, (0 : I64.den), (0 : (Ty.int IntKind.u64).den)) (12 : Int)).fst)]]) := by kernel_rfl
  refine (congrArg (Tree.ok _) htree).mpr ?_
  clear htree
  have h0 := from_ok hp
  have e : A2Sm code = (scoreS (code, 0, 0) 12).1 := rfl
  simp only [Tree.ok, tyd_inj, packAV, AV.same, AV.same.sameL, encV, encS, enc, inK, Nd.ok, List.headD_cons, List.cons_append, List.nil_append, List.append_nil, true_and, and_true, Bool.true_and, Bool.and_true, e]
  have h1 := h0.mono (show (0 : Int) ≤ 600000000 by omega)
  repeat' first | apply And.intro | intro _
  all_goals first | exact h1 | omega | rfl | trivial
def C_Tv_2 : FuncId → Option Ct := addC 14 ct_A2ScoreM C_Tv_1
theorem C_Tv_2_ok : COk Try.prog C_Tv_2 := addC_ok C_Tv_1_ok sat_A2ScoreM
def ct_lawMerged : Ct := ctOf [.v (.seq (.int .u8)), .v (.seq (.int .u8))] (fun ((code : List (Ty.int .u8).den), (more : List (Ty.int .u8).den), _) => .p (bytesOk code ∧ bytesOk more)) (fun ((code : List (Ty.int .u8).den), (more : List (Ty.int .u8).den), _) => .bool true)
set_option maxHeartbeats 1000000 in
theorem sat_lawMerged : Sat Try.prog 11 ct_lawMerged := by
  refine sat_typed (C := C_Tv_2) (L := noL) (wr := false) mixedOk Try.func11 C_Tv_2_ok (loops0 (by kernel_rfl)) (fun _ => by first | rfl | (simp [ownsOf, ownsOf.ownsL, enc, encV, encS])) fun x hp => ?_
  obtain ⟨(code : List (Ty.int .u8).den), (more : List (Ty.int .u8).den), _⟩ := x
  replace hp : bytesOk code ∧ bytesOk more := hp
  have htree : exFunc Try.prog C_Tv_2 false noL Try.f11 (encA [.v (.seq (.int .u8)), .v (.seq (.int .u8))] (code, more, ())) = .ite (decide ((3000 : Int) < (↑code.length : Int)) || decide ((3000 : Int) < (↑more.length : Int))) (.leaf [.lit true]) (.need (bytesOk code) (.need (bytesOk more) (.need ((↑(A2Sm code).length : Int) ≤ (9223372036854775807 : Int) ∧ (↑(A2Sm more).length : Int) ≤ (9223372036854775807 : Int)) (.need ((↑(A2Sm more).length : Int) ≤ (9223372036854775807 : Int) ∧ (↑(A2Sm code).length : Int) ≤ (9223372036854775807 : Int)) (.ite ((mergeS (A2Sm code) (A2Sm more)).snd != (mergeS (A2Sm more) (A2Sm code)).snd) (.leaf [.lit false]) (.need ((↑(mergeS (A2Sm code) (A2Sm more)).fst.length : Int) ≤ (9223372036854775807 : Int)) (.ite (!decide ((mergeS (A2Sm code) (A2Sm more)).fst = (mergeS (A2Sm more) (A2Sm code)).fst)) (.leaf [.lit false]) (.ite ((mergeS (A2Sm code) (A2Sm more)).snd == (0 : Int)) (.need ((↑(mergeS (A2Sm code) (A2Sm more)).fst.length : Int) ≤ (9223372036854775807 : Int)) (.ite (!scoreF (mergeS (A2Sm code) (A2Sm more)).fst) (.leaf [.lit false]) (.need (bytesOk more ∧ (0 : Int) ≤ (0 : Int)) (.need (inK IntKind.i64 ((1 : Int) + a2At more (0 : Int) (6 : Int))) (.need ((↑(A2Sm code).length : Int) ≤ (9223372036854775807 : Int)) (.need ((↑(A2Sm code).length : Int) ≤ (9223372036854775807 : Int)) (.ite ((cutS (A2Sm code) ((0 : Int), (1 : Int)) ((1 : Int) + a2At more (0 : Int) (6 : Int), (1 : Int))).snd != (0 : Int)) (.leaf [.lit false]) (.ite ((cutS (A2Sm code) ((1 : Int) + a2At more (0 : Int) (6 : Int), (1 : Int)) ((1000 : Int), (1 : Int))).snd != (0 : Int)) (.leaf [.lit false]) (.need (inK IntKind.i64 ((↑(cutS (A2Sm code) ((0 : Int), (1 : Int)) ((1 : Int) + a2At more (0 : Int) (6 : Int), (1 : Int))).fst.length : Int) + (↑(cutS (A2Sm code) ((1 : Int) + a2At more (0 : Int) (6 : Int), (1 : Int)) ((1000 : Int), (1 : Int))).fst.length : Int))) (.ite ((↑(cutS (A2Sm code) ((0 : Int), (1 : Int)) ((1 : Int) + a2At more (0 : Int) (6 : Int), (1 : Int))).fst.length : Int) + (↑(cutS (A2Sm code) ((1 : Int) + a2At more (0 : Int) (6 : Int), (1 : Int)) ((1000 : Int), (1 : Int))).fst.length : Int) != (↑(A2Sm code).length : Int)) (.leaf [.lit false]) (.need ((↑(cutS (A2Sm code) ((0 : Int), (1 : Int)) ((1 : Int) + a2At more (0 : Int) (6 : Int), (1 : Int))).fst.length : Int) ≤ (9223372036854775807 : Int)) (.ite ((endS (cutS (A2Sm code) ((0 : Int), (1 : Int)) ((1 : Int) + a2At more (0 : Int) (6 : Int), (1 : Int))).fst).snd != (0 : Int)) (.leaf [.lit false]) (.ite (decide ((0 : Int) < if okF (endS (cutS (A2Sm code) ((0 : Int), (1 : Int)) ((1 : Int) + a2At more (0 : Int) (6 : Int), (1 : Int))).fst).fst.fst (endS (cutS (A2Sm code) ((0 : Int), (1 : Int)) ((1 : Int) + a2At more (0 : Int) (6 : Int), (1 : Int))).fst).fst.snd = true ∧ okF ((1 : Int) + a2At more (0 : Int) (6 : Int)) (1 : Int) = true then cmpF (endS (cutS (A2Sm code) ((0 : Int), (1 : Int)) ((1 : Int) + a2At more (0 : Int) (6 : Int), (1 : Int))).fst).fst.fst (endS (cutS (A2Sm code) ((0 : Int), (1 : Int)) ((1 : Int) + a2At more (0 : Int) (6 : Int), (1 : Int))).fst).fst.snd ((1 : Int) + a2At more (0 : Int) (6 : Int)) (1 : Int) else (0 : Int))) (.leaf [.lit false]) (.need (bytesOk more ∧ (0 : Int) ≤ (1 : Int)) (.need (inK IntKind.i64 ((1 : Int) + a2At more (1 : Int) (3 : Int))) (.need (bytesOk more ∧ (0 : Int) ≤ (2 : Int)) (.need (inK IntKind.i64 ((1 : Int) + a2At more (2 : Int) (4 : Int))) (.need (((-9223372036854775808 : Int) ≤ (1 : Int) + a2At more (1 : Int) (3 : Int) ∧ (1 : Int) + a2At more (1 : Int) (3 : Int) ≤ (9223372036854775807 : Int)) ∧ (-9223372036854775808 : Int) ≤ (1 : Int) + a2At more (2 : Int) (4 : Int) ∧ (1 : Int) + a2At more (2 : Int) (4 : Int) ≤ (9223372036854775807 : Int)) (.need ((↑(A2Sm code).length : Int) ≤ (9223372036854775807 : Int)) (.need ((↑(quS (A2Sm code) (mkF ((1 : Int) + a2At more (1 : Int) (3 : Int)) ((1 : Int) + a2At more (2 : Int) (4 : Int))).fst).fst.length : Int) ≤ (9223372036854775807 : Int)) (.need ((↑(A2Sm code).length : Int) ≤ (9223372036854775807 : Int)) (.ite ((quS (A2Sm code) (mkF ((1 : Int) + a2At more (1 : Int) (3 : Int)) ((1 : Int) + a2At more (2 : Int) (4 : Int))).fst).snd == (0 : Int)) (.ite ((quS (quS (A2Sm code) (mkF ((1 : Int) + a2At more (1 : Int) (3 : Int)) ((1 : Int) + a2At more (2 : Int) (4 : Int))).fst).fst (mkF ((1 : Int) + a2At more (1 : Int) (3 : Int)) ((1 : Int) + a2At more (2 : Int) (4 : Int))).fst).snd == (0 : Int)) (.need ((↑(quS (A2Sm code) (mkF ((1 : Int) + a2At more (1 : Int) (3 : Int)) ((1 : Int) + a2At more (2 : Int) (4 : Int))).fst).fst.length : Int) ≤ (9223372036854775807 : Int)) (.ite (decide ((quS (A2Sm code) (mkF ((1 : Int) + a2At more (1 : Int) (3 : Int)) ((1 : Int) + a2At more (2 : Int) (4 : Int))).fst).fst = (quS (quS (A2Sm code) (mkF ((1 : Int) + a2At more (1 : Int) (3 : Int)) ((1 : Int) + a2At more (2 : Int) (4 : Int))).fst).fst (mkF ((1 : Int) + a2At more (1 : Int) (3 : Int)) ((1 : Int) + a2At more (2 : Int) (4 : Int))).fst).fst)) (.ite (decide ((↑(quS (A2Sm code) (mkF ((1 : Int) + a2At more (1 : Int) (3 : Int)) ((1 : Int) + a2At more (2 : Int) (4 : Int))).fst).fst.length : Int) ≤ (↑(A2Sm code).length : Int))) (.ite ((sortS (A2Sm code)).snd == (0 : Int)) (.need ((↑(sortS (A2Sm code)).fst.length : Int) ≤ (9223372036854775807 : Int)) (.leaf [.bool (decide ((sortS (A2Sm code)).fst = A2Sm code))])) (.leaf [.lit false])) (.leaf [.lit false])) (.leaf [.lit false]))) (.leaf [.lit false])) (.leaf [.lit false]))))))))))))))))))))))) (.need (bytesOk more ∧ (0 : Int) ≤ (0 : Int)) (.need (inK IntKind.i64 ((1 : Int) + a2At more (0 : Int) (6 : Int))) (.need ((↑(A2Sm code).length : Int) ≤ (9223372036854775807 : Int)) (.need ((↑(A2Sm code).length : Int) ≤ (9223372036854775807 : Int)) (.ite ((cutS (A2Sm code) ((0 : Int), (1 : Int)) ((1 : Int) + a2At more (0 : Int) (6 : Int), (1 : Int))).snd != (0 : Int)) (.leaf [.lit false]) (.ite ((cutS (A2Sm code) ((1 : Int) + a2At more (0 : Int) (6 : Int), (1 : Int)) ((1000 : Int), (1 : Int))).snd != (0 : Int)) (.leaf [.lit false]) (.need (inK IntKind.i64 ((↑(cutS (A2Sm code) ((0 : Int), (1 : Int)) ((1 : Int) + a2At more (0 : Int) (6 : Int), (1 : Int))).fst.length : Int) + (↑(cutS (A2Sm code) ((1 : Int) + a2At more (0 : Int) (6 : Int), (1 : Int)) ((1000 : Int), (1 : Int))).fst.length : Int))) (.ite ((↑(cutS (A2Sm code) ((0 : Int), (1 : Int)) ((1 : Int) + a2At more (0 : Int) (6 : Int), (1 : Int))).fst.length : Int) + (↑(cutS (A2Sm code) ((1 : Int) + a2At more (0 : Int) (6 : Int), (1 : Int)) ((1000 : Int), (1 : Int))).fst.length : Int) != (↑(A2Sm code).length : Int)) (.leaf [.lit false]) (.need ((↑(cutS (A2Sm code) ((0 : Int), (1 : Int)) ((1 : Int) + a2At more (0 : Int) (6 : Int), (1 : Int))).fst.length : Int) ≤ (9223372036854775807 : Int)) (.ite ((endS (cutS (A2Sm code) ((0 : Int), (1 : Int)) ((1 : Int) + a2At more (0 : Int) (6 : Int), (1 : Int))).fst).snd != (0 : Int)) (.leaf [.lit false]) (.ite (decide ((0 : Int) < if okF (endS (cutS (A2Sm code) ((0 : Int), (1 : Int)) ((1 : Int) + a2At more (0 : Int) (6 : Int), (1 : Int))).fst).fst.fst (endS (cutS (A2Sm code) ((0 : Int), (1 : Int)) ((1 : Int) + a2At more (0 : Int) (6 : Int), (1 : Int))).fst).fst.snd = true ∧ okF ((1 : Int) + a2At more (0 : Int) (6 : Int)) (1 : Int) = true then cmpF (endS (cutS (A2Sm code) ((0 : Int), (1 : Int)) ((1 : Int) + a2At more (0 : Int) (6 : Int), (1 : Int))).fst).fst.fst (endS (cutS (A2Sm code) ((0 : Int), (1 : Int)) ((1 : Int) + a2At more (0 : Int) (6 : Int), (1 : Int))).fst).fst.snd ((1 : Int) + a2At more (0 : Int) (6 : Int)) (1 : Int) else (0 : Int))) (.leaf [.lit false]) (.need (bytesOk more ∧ (0 : Int) ≤ (1 : Int)) (.need (inK IntKind.i64 ((1 : Int) + a2At more (1 : Int) (3 : Int))) (.need (bytesOk more ∧ (0 : Int) ≤ (2 : Int)) (.need (inK IntKind.i64 ((1 : Int) + a2At more (2 : Int) (4 : Int))) (.need (((-9223372036854775808 : Int) ≤ (1 : Int) + a2At more (1 : Int) (3 : Int) ∧ (1 : Int) + a2At more (1 : Int) (3 : Int) ≤ (9223372036854775807 : Int)) ∧ (-9223372036854775808 : Int) ≤ (1 : Int) + a2At more (2 : Int) (4 : Int) ∧ (1 : Int) + a2At more (2 : Int) (4 : Int) ≤ (9223372036854775807 : Int)) (.need ((↑(A2Sm code).length : Int) ≤ (9223372036854775807 : Int)) (.need ((↑(quS (A2Sm code) (mkF ((1 : Int) + a2At more (1 : Int) (3 : Int)) ((1 : Int) + a2At more (2 : Int) (4 : Int))).fst).fst.length : Int) ≤ (9223372036854775807 : Int)) (.need ((↑(A2Sm code).length : Int) ≤ (9223372036854775807 : Int)) (.ite ((quS (A2Sm code) (mkF ((1 : Int) + a2At more (1 : Int) (3 : Int)) ((1 : Int) + a2At more (2 : Int) (4 : Int))).fst).snd == (0 : Int)) (.ite ((quS (quS (A2Sm code) (mkF ((1 : Int) + a2At more (1 : Int) (3 : Int)) ((1 : Int) + a2At more (2 : Int) (4 : Int))).fst).fst (mkF ((1 : Int) + a2At more (1 : Int) (3 : Int)) ((1 : Int) + a2At more (2 : Int) (4 : Int))).fst).snd == (0 : Int)) (.need ((↑(quS (A2Sm code) (mkF ((1 : Int) + a2At more (1 : Int) (3 : Int)) ((1 : Int) + a2At more (2 : Int) (4 : Int))).fst).fst.length : Int) ≤ (9223372036854775807 : Int)) (.ite (decide ((quS (A2Sm code) (mkF ((1 : Int) + a2At more (1 : Int) (3 : Int)) ((1 : Int) + a2At more (2 : Int) (4 : Int))).fst).fst = (quS (quS (A2Sm code) (mkF ((1 : Int) + a2At more (1 : Int) (3 : Int)) ((1 : Int) + a2At more (2 : Int) (4 : Int))).fst).fst (mkF ((1 : Int) + a2At more (1 : Int) (3 : Int)) ((1 : Int) + a2At more (2 : Int) (4 : Int))).fst).fst)) (.ite (decide ((↑(quS (A2Sm code) (mkF ((1 : Int) + a2At more (1 : Int) (3 : Int)) ((1 : Int) + a2At more (2 : Int) (4 : Int))).fst).fst.length : Int) ≤ (↑(A2Sm code).length : Int))) (.ite ((sortS (A2Sm code)).snd == (0 : Int)) (.need ((↑(sortS (A2Sm code)).fst.length : Int) ≤ (9223372036854775807 : Int)) (.leaf [.bool (decide ((sortS (A2Sm code)).fst = A2Sm code))])) (.leaf [.lit false])) (.leaf [.lit false])) (.leaf [.lit false]))) (.leaf [.lit false])) (.leaf [.lit false]))))))))))))))))))))))))))))) := by kernel_rfl
  refine (congrArg (Tree.ok _) htree).mpr ?_
  clear htree
  have hs := scoreS_d24 (from_ok hp.1) (most := 12) (by omega)
  have ht := scoreS_d24 (from_ok hp.2) (most := 12) (by omega)
  have e : A2Sm code = (scoreS (code, 0, 0) 12).1 := rfl
  have e' : A2Sm more = (scoreS (more, 0, 0) 12).1 := rfl
  rw [← e] at hs
  rw [← e'] at ht
  obtain ⟨hd, hx, hl⟩ := hs
  obtain ⟨_, hy, hl'⟩ := ht
  have hb1 := a2At_bd hp.2 (i := 0) (by omega) 6
  have hb2 := a2At_bd hp.2 (i := 1) (by omega) 3
  have hb3 := a2At_bd hp.2 (i := 2) (by omega) 4
  obtain ⟨hc, hm⟩ := hp
  clear e e'
  generalize A2Sm code = xs at *
  generalize A2Sm more = ys at *
  generalize a2At more 0 6 = u at *
  generalize a2At more 1 3 = v at *
  generalize a2At more 2 4 = w at *
  have c1 := hb1.2 (by omega)
  have c2 := hb2.2 (by omega)
  have c3 := hb3.2 (by omega)
  have M1 := merge_comm hx hy
  have M2 := merge_score hx hy
  have M3 := mergeS_len xs ys
  have K1 := cut_two hx hd (m := 1 + u) (by omega)
  have K2 := cutS_len xs (0, 1) (1 + u, 1)
  have K3 := cutS_len xs (1 + u, 1) (1000, 1)
  obtain ⟨G, hG, eG⟩ := grid24 (u := v) (v := w) (by omega) (by omega)
  have Q1 := qu_twice hx hd hG
  have S1 := sort_self hx
  have n0 := (score_notes hx).1
  have o1 : okF (1 + u) 1 = true := okF_int (by omega)
  simp only [Tree.ok, tyd_inj, packAV, AV.same, AV.same.sameL, encV, encS, enc, inK, Nd.ok, List.headD_cons, List.cons_append, List.nil_append, List.append_nil, true_and, and_true, Bool.true_and, Bool.and_true, eG, o1, S1, ← M1]
  generalize mergeS xs ys = X at *
  generalize cutS xs (0, 1) (1 + u, 1) = L at *
  generalize cutS xs (1 + u, 1) (1000, 1) = R at *
  generalize endS L.1 = E at *
  generalize quS xs (r24 G) = Q at *
  obtain ⟨q1, q2, q3⟩ := Q1
  obtain ⟨k1, k2, k3, k4, k5, k6⟩ := K1
  simp only [q1, q2, k1, k2, k4, k5, S1, bne_self_eq_false, beq_self_eq_true, decide_true, Bool.not_true, Bool.false_eq_true, false_implies, true_implies, and_self, if_true, bne_iff_ne, ne_eq, bne_eq_false_iff_eq, beq_iff_eq, beq_eq_false_iff_ne, Bool.not_eq_true', decide_eq_true_eq, decide_eq_false_iff_not, not_true_eq_false, not_false_eq_true]
  clear hd M1
  repeat' first | apply And.intro | intro _
  all_goals first | omega | assumption | trivial | exact hc | exact hm | exact (hc _ ‹_›).1 | exact (hc _ ‹_›).2 | exact (hm _ ‹_›).1 | exact (hm _ ‹_›).2 | (simp_all; done) | (simp_all; omega) | (trace_state; fail)
def C_Tv_3 : FuncId → Option Ct := addC 11 ct_lawMerged C_Tv_2
theorem C_Tv_3_ok : COk Try.prog C_Tv_3 := addC_ok C_Tv_2_ok sat_lawMerged

def C_Tv : FuncId → Option Ct := C_Tv_3
theorem C_Tv_ok : COk Try.prog C_Tv := C_Tv_3_ok
end Go.Proofs.Ytjgjcggecikdpaa
