/- The steps of a tuning, its modes; the laws on them. Conditions: as each says. -/
import Derived.Test.YtjgjcggecikdpaaFk
set_option linter.unusedSimpArgs false
set_option linter.unusedVariables false
namespace Go.Proofs.Ytjgjcggecikdpaa
open Go.RowKit Sx
set_option maxRecDepth 100000
set_option maxHeartbeats 1000000
def ct_markTuning : Ct := ctOfW [.os tTuning, .v (.int .i64)] (fun ((x : tTuning.den), (k : Int), _) => .p ((x.2.2 : List tFrac.den).length ≤ 16777216 ∧ (0 ≤ k ∧ k ≤ 1000000000000))) (fun ((x : tTuning.den), (k : Int), _) => .int .i64 (k + 2 * ((x.2.2 : List tFrac.den).length : Int))) (fun ((x : tTuning.den), (k : Int), _) => ⟨tFrac, rowMark mkFracV 2 (x.2.2 : List tFrac.den).length k⟩)
set_option maxHeartbeats 1000000 in
theorem sat_markTuning : Sat Try.prog 50 ct_markTuning := by
  refine sat_typedW (C := C_Fk) (L := noL) (wr := false) mixedOk Try.func50 C_Fk_ok (loops0 (by kernel_rfl)) (fun _ => rfl) fun x hp => ?_
  obtain ⟨(x : tTuning.den), (k : Int), _⟩ := x
  replace hp : (x.2.2 : List tFrac.den).length ≤ 16777216 ∧ (0 ≤ k ∧ k ≤ 1000000000000) := hp
  have htree : exFuncW Try.prog C_Fk false noL Try.f50 true (rowed.rowedL BR (encA [.os tTuning, .v (.int .i64)] (x, k, ()))) ⟨tFrac, x.2.2⟩ = .need (List.length x.snd.snd ≤ (16777216 : Nat) ∧ (0 : Int) ≤ k ∧ k ≤ (1000000000000 : Int)) (.leaf ([.int .i64 (k + (2 : Int) * (↑(List.length x.snd.snd) : Int))], some ⟨I64.pair I64, rowMark mkFracV (2 : Int) (List.length x.snd.snd) k⟩)) := by kernel_rfl
  refine (congrArg (Tree.ok _) htree).mpr ?_
  clear htree
  simp only [Tree.ok, tyd_inj, packAV, AV.same, AV.same.sameL, encV, encS, enc, inK, Nd.ok, List.headD_cons, List.cons_append, List.nil_append, List.append_nil, true_and, and_true, Bool.true_and, Bool.and_true]
  repeat' first | apply And.intro | intro _
  all_goals first | omega | trivial | assumption
def C_Fl_1 : FuncId → Option Ct := addC 50 ct_markTuning C_Fk
theorem C_Fl_1_ok : COk Try.prog C_Fl_1 := addC_ok C_Fk_ok sat_markTuning
def ct_heldTuning : Ct := ctOf [.s tTuning, .v (.int .i64)] (fun ((x : tTuning.den), (k : Int), _) => .p ((x.2.2 : List tFrac.den).length ≤ 16777216 ∧ (0 ≤ k ∧ k ≤ 1000000000000))) (fun ((x : tTuning.den), (k : Int), _) => .int .i64 (heldR mkFracV 2 (x.2.2 : List tFrac.den) k))
set_option maxHeartbeats 1000000 in
theorem sat_heldTuning : Sat Try.prog 51 ct_heldTuning := by
  refine sat_typed (C := C_Fl_1) (L := noL) (wr := false) mixedOk Try.func51 C_Fl_1_ok (loops0 (by kernel_rfl)) (fun _ => by first | rfl | (simp [ownsOf, ownsOf.ownsL, enc, encV, encS])) fun x hp => ?_
  obtain ⟨(x : tTuning.den), (k : Int), _⟩ := x
  replace hp : (x.2.2 : List tFrac.den).length ≤ 16777216 ∧ (0 ≤ k ∧ k ≤ 1000000000000) := hp
  have htree : exFunc Try.prog C_Fl_1 false noL Try.f51 (encA [.s tTuning, .v (.int .i64)] (x, k, ())) = .need (List.length x.snd.snd ≤ (16777216 : Nat) ∧ (0 : Int) ≤ k ∧ k ≤ (1000000000000 : Int)) (.ite (decide (heldR mkFracV (2 : Int) x.snd.snd k < (0 : Int))) (.leaf [.int .i64 ((-1 : Int))]) (.leaf [.int .i64 (heldR mkFracV (2 : Int) x.snd.snd k)])) := by kernel_rfl
  refine (congrArg (Tree.ok _) htree).mpr ?_
  clear htree
  simp only [Tree.ok, tyd_inj, packAV, AV.same, AV.same.sameL, encV, encS, enc, inK, Nd.ok, List.headD_cons, List.cons_append, List.nil_append, List.append_nil, true_and, and_true, Bool.true_and, Bool.and_true]
  repeat' first | apply And.intro | intro _
  all_goals first | omega | trivial | assumption | grind [heldR]
def C_Fl_2 : FuncId → Option Ct := addC 51 ct_heldTuning C_Fl_1
theorem C_Fl_2_ok : COk Try.prog C_Fl_2 := addC_ok C_Fl_1_ok sat_heldTuning
def stepsGo : Fr → List Fr → List Fr × Int
  | _, [] => ([], 0)
  | b, r :: rs => if (divF r.1 r.2 b.1 b.2).2 = 0 then ((divF r.1 r.2 b.1 b.2).1 :: (stepsGo r rs).1, (stepsGo r rs).2) else ([], 2)
def stepsF (x : tTuning.den) : List tFrac.den × Int := if tuneF x = true then (if (stepsGo (atF x.2.2 0) ((x.2.2 : List tFrac.den).drop 1 ++ [x.2.1])).2 = 0 then ((stepsGo (atF x.2.2 0) ((x.2.2 : List tFrac.den).drop 1 ++ [x.2.1])).1, 0) else ([], 2)) else ([], 1)
theorem divF_cd {a b c d : Int} (h1 : okF a b = true) (h2 : okF c d = true) : (divF a b c d).2 = 0 ∨ (divF a b c d).2 = 2 := by
  have g1 := okF_bd h1
  unfold divF
  rw [if_pos ⟨h1, h2⟩]
  split
  · exact .inr rfl
  · rename_i hc
    rcases mkF_code (a * d) (b * c) (Int.mul_ne_zero (by omega) hc) with h | h
    · exact .inl h
    · exact .inr h.1
theorem stepsGo_at (all : List tFrac.den) (i : Nat) (b : Fr) (h : i < all.length) : stepsGo b (all.drop i) = if (divF (atF all i).1 (atF all i).2 b.1 b.2).2 = 0 then ((divF (atF all i).1 (atF all i).2 b.1 b.2).1 :: (stepsGo (atF all i) (all.drop (i + 1))).1, (stepsGo (atF all i) (all.drop (i + 1))).2) else ([], 2) := by
  unfold atF
  rw [getD_lt _ _ _ h, List.drop_eq_getElem_cons h]
  rfl
theorem stepsGo_len : ∀ (b : Fr) (l : List Fr), (stepsGo b l).1.length ≤ l.length
  | _, [] => Nat.le_refl _
  | b, r :: rs => by
    have := stepsGo_len r rs
    unfold stepsGo
    split <;> simp <;> omega
theorem tune_all {x : tTuning.den} (h : tuneF x = true) : okFs (x.2.2 : List tFrac.den) = true := by
  have hs := rat_split x.2.2 x.2.1.1 x.2.1.2 (x.2.2 : List tFrac.den).length 0 (by omega)
  rw [List.drop_zero] at hs
  simp only [tuneF, hs, Bool.and_eq_true] at h
  exact h.2.2.2.2.2.2.1
theorem okFs_app (xs ys : List tFrac.den) : okFs (xs ++ ys) = (okFs xs && okFs ys) := List.all_append
def ann_iSteps_0 : LAnn := { sameS := [5, 25, 26], modS := [2, 3, 4, 27], sameH := [25], modH := [5], base := 900000, nilE := [], nilB := [], G := fun
  | ⟨[.ptr 5 0, .row 25, .int .i64 n], [.row (.pair (.int .i64) (.int .i64)) all], [.nilS, .int .i64 c, .own (.pair (.int .i64) (.int .i64)) out, .int .i64 i], [[.int .i64 a, .int .i64 b]]⟩ => some (.p ((0 ≤ i ∧ i ≤ n) ∧ n = (all.length : Int) ∧ all.length ≤ 16777216 ∧ (out.length : Int) = i ∧ okFs all = true ∧ okF a b = true), .ite (decide ((stepsGo (a, b) (all.drop i.toNat)).2 = 0)) (.leaf (.exit 0) [.nilS, .int .i64 c, .own tFrac (out ++ (stepsGo (a, b) (all.drop i.toNat)).1), .unk] [[.unk, .unk]]) (.leaf .ret [.nilS, .int .i64 2, .own tFrac (out ++ (stepsGo (a, b) (all.drop i.toNat)).1), .unk] [[.unk, .unk]]))
  | _ => none }
def ct_iSteps : Ct := ctOf [.s tTuning] (fun ((x : tTuning.den), _) => .p ((x.2.2 : List tFrac.den).length ≤ 16777215)) (fun ((x : tTuning.den), _) => .tup [.own tFrac (stepsF x).1, .int .i64 (stepsF x).2])
set_option maxHeartbeats 1000000 in
theorem loop_iSteps_0 : LoopSat Try.prog Try.f27.ntmps (loopAt Try.f27 0) ann_iSteps_0 := by
  refine loopSat_of (C := C_Fl_2) (L := (addL (firstId (loopAt Try.f27 0)) ann_iSteps_0 noL)) (wr := false) mixedOk C_Fl_2_ok (loopsIn0 (by kernel_rfl)) (fun d => match d.same, d.vals with | [_, _, .int _ n], [_, _, _, .int _ e] => (n - e).toNat | _, _ => 0) fun d p t hG hp => ?_
  simp only [ann_iSteps_0] at hG
  split at hG
  rotate_left
  · simp at hG
  rename_i n all c out i a b
  simp only [Option.some.injEq, Prod.mk.injEq] at hG
  obtain ⟨rfl, rfl⟩ := hG
  have htree : exRound Try.prog C_Fl_2 false (addL (firstId (loopAt Try.f27 0)) ann_iSteps_0 noL) Try.f27.ntmps ann_iSteps_0 (loopAt Try.f27 0) ⟨[.ptr 5 0, .row 25, .int .i64 n], [.row tFrac all], [.nilS, .int .i64 c, .own tFrac out, .int .i64 i], [[.int .i64 a, .int .i64 b]]⟩ = .ite (decide (i < n)) (.need ((0 : Int) ≤ i ∧ i < (↑all.length : Int)) (.need (i.toNat < all.length) (.ite ((divF (all.getD i.toNat tFrac.zero).fst (all.getD i.toNat tFrac.zero).snd a b).snd != (0 : Int)) (.leaf (.ret, ⟨[.ptr 5 0, .row 25, .int .i64 (n)], [.row (I64.pair I64) (all)], [.nilS, .int .i64 ((divF (all.getD i.toNat tFrac.zero).fst (all.getD i.toNat tFrac.zero).snd a b).snd), .own (I64.pair I64) (out), .int .i64 (i)], [[.int .i64 (a), .int .i64 (b)]]⟩)) (.need (out.length + [((divF (all.getD i.toNat tFrac.zero).fst (all.getD i.toNat tFrac.zero).snd a b).fst.fst, (divF (all.getD i.toNat tFrac.zero).fst (all.getD i.toNat tFrac.zero).snd a b).fst.snd)].length ≤ (16777216 : Nat)) (.need (inK IntKind.i64 (i + (1 : Int))) (.leaf (.normal, ⟨[.ptr 5 0, .row 25, .int .i64 (n)], [.row (I64.pair I64) (all)], [.nilS, .int .i64 (c), .own (I64.pair I64) (out ++ [((divF (all.getD i.toNat tFrac.zero).fst (all.getD i.toNat tFrac.zero).snd a b).fst.fst, (divF (all.getD i.toNat tFrac.zero).fst (all.getD i.toNat tFrac.zero).snd a b).fst.snd)]), .int .i64 (i + (1 : Int))], [[.int .i64 ((all.getD i.toNat tFrac.zero).fst), .int .i64 ((all.getD i.toNat tFrac.zero).snd)]]⟩))))))) (.leaf ((.exit 0), ⟨[.ptr 5 0, .row 25, .int .i64 (n)], [.row (I64.pair I64) (all)], [.nilS, .int .i64 (c), .own (I64.pair I64) (out), .int .i64 (i)], [[.int .i64 (a), .int .i64 (b)]]⟩)) := by kernel_rfl
  rw [htree]
  clear htree
  replace hp : (0 ≤ i ∧ i ≤ n) ∧ n = (all.length : Int) ∧ all.length ≤ 16777216 ∧ (out.length : Int) = i ∧ okFs all = true ∧ okF a b = true := hp
  have hz : ∀ (k : Nat), all.getD k tFrac.zero = atF all k := fun _ => rfl
  obtain ⟨hi, hn, hl, ho, hok, hab⟩ := hp
  simp only [Tree.ok, tyd_inj, packAV, AV.same, AV.same.sameL, encV, encS, enc, inK, Nd.ok, List.headD_cons, List.cons_append, List.nil_append, List.append_nil, true_and, and_true, Bool.true_and, Bool.and_true, loop_next, weakBs_nil, weakBs_cons, weakB_self, weakB_row, weakB_int, weakL_nil, weakL_unk, weakL_guess, isRow_own, isRow_unk, weakL_int, weakL_bool, weakL_str, weakL_own, weakL_view, weakL_nilS, noRow_int, noRow_bool, own_inj, LTree.val, cond_true, cond_false, Prod.mk.injEq, List.cons.injEq, AV.int.injEq, AV.bool.injEq, AV.str.injEq, AV.agg.injEq, ann_iSteps_0, decide_eq_true_eq, decide_eq_false_iff_not, bne_iff_ne, ne_eq, bne_eq_false_iff_eq, hz]
  refine ⟨fun ha => ?_, fun ha => ?_⟩
  · have h1 := stepsGo_at all i.toNat (a, b) (by omega)
    have g := divF_cd (okFs_get hok i.toNat (by omega)) hab
    rw [show (i + 1).toNat = i.toNat + 1 by omega, h1]
    simp only
    have hok2 := okFs_get hok i.toNat (by omega)
    generalize divF (atF all i.toNat).1 (atF all i.toNat).2 a b = q at *
    obtain ⟨⟨q1, q2⟩, q3⟩ := q
    simp only at g ⊢
    by_cases hc : q3 = 0
    · rw [if_pos hc]
      simp only [List.length_append, List.length_cons, List.length_nil, List.append_assoc, List.singleton_append]
      repeat' first | apply And.intro | intro _
      all_goals first | omega | assumption | trivial | rfl
    · rw [if_neg hc]
      simp only [List.append_nil]
      repeat' first | apply And.intro | intro _
      all_goals first | omega | assumption | trivial | rfl | (simp [Tree.ok, tyd_inj, packAV, AV.same, AV.same.sameL, encV, encS, enc, inK, Nd.ok, List.headD_cons, List.cons_append, List.nil_append, List.append_nil, true_and, and_true, Bool.true_and, Bool.and_true, loop_next, weakBs_nil, weakBs_cons, weakB_self, weakB_row, weakB_int, weakL_nil, weakL_unk, weakL_guess, isRow_own, isRow_unk, weakL_int, weakL_bool, weakL_str, weakL_own, weakL_view, weakL_nilS, noRow_int, noRow_bool, own_inj, LTree.val, cond_true, cond_false, Prod.mk.injEq, List.cons.injEq, AV.int.injEq, AV.bool.injEq, AV.str.injEq, AV.agg.injEq]; done) | (simp [Tree.ok, tyd_inj, packAV, AV.same, AV.same.sameL, encV, encS, enc, inK, Nd.ok, List.headD_cons, List.cons_append, List.nil_append, List.append_nil, true_and, and_true, Bool.true_and, Bool.and_true, loop_next, weakBs_nil, weakBs_cons, weakB_self, weakB_row, weakB_int, weakL_nil, weakL_unk, weakL_guess, isRow_own, isRow_unk, weakL_int, weakL_bool, weakL_str, weakL_own, weakL_view, weakL_nilS, noRow_int, noRow_bool, own_inj, LTree.val, cond_true, cond_false, Prod.mk.injEq, List.cons.injEq, AV.int.injEq, AV.bool.injEq, AV.str.injEq, AV.agg.injEq]; omega)
  · rw [show i.toNat = all.length by omega, List.drop_length]
    simp [Tree.ok, tyd_inj, packAV, AV.same, AV.same.sameL, encV, encS, enc, inK, Nd.ok, List.headD_cons, List.cons_append, List.nil_append, List.append_nil, true_and, and_true, Bool.true_and, Bool.and_true, loop_next, weakBs_nil, weakBs_cons, weakB_self, weakB_row, weakB_int, weakL_nil, weakL_unk, weakL_guess, isRow_own, isRow_unk, weakL_int, weakL_bool, weakL_str, weakL_own, weakL_view, weakL_nilS, noRow_int, noRow_bool, own_inj, LTree.val, cond_true, cond_false, Prod.mk.injEq, List.cons.injEq, AV.int.injEq, AV.bool.injEq, AV.str.injEq, AV.agg.injEq, stepsGo]
theorem loops_iSteps : ∀ c, Try.f27.body = some c → LoopsOk Try.prog (addL (firstId (loopAt Try.f27 0)) ann_iSteps_0 noL) Try.f27.ntmps c := loopsN fun i hi ann h => by
  have hn : loopN Try.f27 = 1 := by kernel_rfl
  rw [hn] at hi
  exact match i, hi, h with
    | 0, _, h => (Option.some.inj ((show (addL (firstId (loopAt Try.f27 0)) ann_iSteps_0 noL) (firstId (loopAt Try.f27 0)) = some ann_iSteps_0 from by kernel_rfl).symm.trans h)) ▸ loop_iSteps_0
set_option maxHeartbeats 1000000 in
theorem sat_iSteps : Sat Try.prog 27 ct_iSteps := by
  refine sat_typed (C := C_Fl_2) (L := (addL (firstId (loopAt Try.f27 0)) ann_iSteps_0 noL)) (wr := false) mixedOk Try.func27 C_Fl_2_ok (loops_iSteps) (fun _ => by first | rfl | (simp [ownsOf, ownsOf.ownsL, enc, encV, encS])) fun x hp => ?_
  obtain ⟨(x : tTuning.den), _⟩ := x
  replace hp : (x.2.2 : List tFrac.den).length ≤ 16777215 := hp
  have htree : exFunc Try.prog C_Fl_2 false (addL (firstId (loopAt Try.f27 0)) ann_iSteps_0 noL) Try.f27 (encA [.s tTuning] (x, ())) = .need ((↑(List.length x.snd.snd) : Int) ≤ (9223372036854775807 : Int)) (.ite (!tuneF ((x.fst.fst, x.fst.snd), (x.snd.fst.fst, x.snd.fst.snd), x.snd.snd)) (.leaf [.nilS, .int .i64 ((1 : Int))]) (.need ((0 : Int) ≤ (0 : Int) ∧ (0 : Int) < (↑(List.length x.snd.snd) : Int)) (.need ((0 : Int) ≤ (1 : Int) ∧ (1 : Int) ≤ (↑(List.length x.snd.snd) : Int)) (.need ((cutL x.snd.snd (1 : Int) (↑(List.length x.snd.snd) : Int)).length ≤ (16777216 : Nat)) (.need ((cutL x.snd.snd (1 : Int) (↑(List.length x.snd.snd) : Int)).length + [(x.snd.fst.fst, x.snd.fst.snd)].length ≤ (16777216 : Nat)) (.need (((0 : Int) ≤ (0 : Int) ∧ (0 : Int) ≤ (↑(cutL x.snd.snd (1 : Int) (↑(List.length x.snd.snd) : Int) ++ [(x.snd.fst.fst, x.snd.fst.snd)]).length : Int)) ∧ (↑(cutL x.snd.snd (1 : Int) (↑(List.length x.snd.snd) : Int) ++ [(x.snd.fst.fst, x.snd.fst.snd)]).length : Int) = (↑(cutL x.snd.snd (1 : Int) (↑(List.length x.snd.snd) : Int) ++ [(x.snd.fst.fst, x.snd.fst.snd)]).length : Int) ∧ (cutL x.snd.snd (1 : Int) (↑(List.length x.snd.snd) : Int) ++ [(x.snd.fst.fst, x.snd.fst.snd)]).length ≤ (16777216 : Nat) ∧ (↑(0 : Nat) : Int) = (0 : Int) ∧ okFs (cutL x.snd.snd (1 : Int) (↑(List.length x.snd.snd) : Int) ++ [(x.snd.fst.fst, x.snd.fst.snd)]) = true ∧ okF (getT tFrac x.snd.snd (0 : Int)).fst (getT tFrac x.snd.snd (0 : Int)).snd = true) (.ite (decide ((stepsGo ((getT tFrac x.snd.snd (0 : Int)).fst, (getT tFrac x.snd.snd (0 : Int)).snd) (List.drop (Int.toNat (0 : Int)) (cutL x.snd.snd (1 : Int) (↑(List.length x.snd.snd) : Int) ++ [(x.snd.fst.fst, x.snd.fst.snd)]))).snd = (0 : Int))) (.leaf [.own (I64.pair I64) ([] ++ (stepsGo ((getT tFrac x.snd.snd (0 : Int)).fst, (getT tFrac x.snd.snd (0 : Int)).snd) (List.drop (Int.toNat (0 : Int)) (cutL x.snd.snd (1 : Int) (↑(List.length x.snd.snd) : Int) ++ [(x.snd.fst.fst, x.snd.fst.snd)]))).fst), .int .i64 ((0 : Int))]) (.leaf [.nilS, .int .i64 ((2 : Int))])))))))) := by kernel_rfl
  refine (congrArg (Tree.ok _) htree).mpr ?_
  clear htree
  obtain ⟨⟨b1, b2⟩, ⟨o1, o2⟩, rs⟩ := x
  have hp : rs.length ≤ 16777215 := hp
  simp only [Tree.ok, tyd_inj, packAV, AV.same, AV.same.sameL, encV, encS, enc, inK, Nd.ok, List.headD_cons, List.cons_append, List.nil_append, List.append_nil, true_and, and_true, Bool.true_and, Bool.and_true, stepsF, List.length_cons, List.length_nil, Bool.not_eq_true', Bool.not_eq_false']
  by_cases h : tuneF ((b1, b2), (o1, o2), rs) = true
  · have hb := tune_bd h
    have ha := tune_all h
    simp only [h, Bool.true_eq_false, false_implies, true_implies, if_true]
    have hb : okF b1 b2 = true ∧ okF o1 o2 = true ∧ 1 ≤ rs.length ∧ rs.length ≤ 24 := hb
    have ha : okFs rs = true := ha
    have e1 : (rs ++ [(o1, o2)]).drop 1 = rs.drop 1 ++ [(o1, o2)] := List.drop_append_of_le_length hb.2.2.1
    have e2 : atF (rs ++ [(o1, o2)]) 0 = atF rs 0 := by unfold atF; rw [getD_lt _ _ _ (by simp), getD_lt _ _ _ (by omega), List.getElem_append_left]
    have e3 : okFs (rs ++ [(o1, o2)]) = true := by rw [okFs_app, ha]; simp [okFs, hb.2.1]
    have e4 : cutL rs 1 (rs.length : Int) = rs.drop 1 := by simp [cutL]
    have e5 : getT tFrac rs 0 = atF rs 0 := rfl
    have e6 : okFs (rs.drop 1 ++ [(o1, o2)]) = true := by
      rw [← e1]
      exact List.all_eq_true.2 fun y hy => List.all_eq_true.1 e3 y (List.drop_subset _ _ hy)
    have e7 := okFs_get ha 0 (by omega)
    have e8 : (rs.drop 1).length = rs.length - 1 := by simp
    simp only [e4, e5, e6, e7, Int.toNat_zero, List.drop_zero, List.length_append, List.length_cons, List.length_nil, e8]
    generalize stepsGo (atF rs 0) (rs.drop 1 ++ [(o1, o2)]) = q at *
    obtain ⟨q1, q2⟩ := q
    simp only
    repeat' first | apply And.intro | intro _
    all_goals first | omega | assumption | trivial | rfl | grind
  · rw [Bool.not_eq_true] at h
    simp [h, Tree.ok, tyd_inj, packAV, AV.same, AV.same.sameL, encV, encS, enc, inK, Nd.ok, List.headD_cons, List.cons_append, List.nil_append, List.append_nil, true_and, and_true, Bool.true_and, Bool.and_true]
    try omega
def C_Fl_3 : FuncId → Option Ct := addC 27 ct_iSteps C_Fl_2
theorem C_Fl_3_ok : COk Try.prog C_Fl_3 := addC_ok C_Fl_2_ok sat_iSteps
theorem heldR_mark {α : Type} [DecidableEq α] (f : Int → α) (s : Int) (n : Nat) (k : Int) : heldR f s (rowMark f s n k) k = k + s * (n : Int) := by
  simp [heldR, rowMark_length]
theorem stepsF_len (x : tTuning.den) : (stepsF x).1.length ≤ 24 := by
  unfold stepsF
  split
  · rename_i h
    have hb := tune_bd h
    have h1 := stepsGo_len (atF x.2.2 0) ((x.2.2 : List tFrac.den).drop 1 ++ [x.2.1])
    have h2 : ((x.2.2 : List tFrac.den).drop 1 ++ [x.2.1]).length = (x.2.2 : List tFrac.den).length - 1 + 1 := by simp
    split
    · simp only; omega
    · simp
  · simp

def C_Fl : FuncId → Option Ct := C_Fl_3
theorem C_Fl_ok : COk Try.prog C_Fl := C_Fl_3_ok
end Go.Proofs.Ytjgjcggecikdpaa
