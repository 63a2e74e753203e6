/- Contracts: valid tunings, of the program and the reference. Conditions: as each says. -/
import Derived.Test.YtkeckmdmmbeaiaaDoorFg
set_option linter.unusedSimpArgs false
set_option linter.unusedVariables false
namespace Go.Proofs.YtkeckmdmmbeaiaaDoor
open Go.RowKit Sx
set_option maxRecDepth 100000
set_option maxHeartbeats 1000000
abbrev Fr := Int × Int
def atF (rs : List tFrac.den) (i : Nat) : Fr := rs.getD i tFrac.zero
def ordT (rs : List tFrac.den) (a b : Int) : Nat → Nat → Bool
  | 0, _ => true
  | n + 1, i => decide (cmpF (atF rs i).1 (atF rs i).2 a b < 0) && (decide (i = 0 ∨ cmpF (atF rs (i - 1)).1 (atF rs (i - 1)).2 (atF rs i).1 (atF rs i).2 < 0) && ordT rs a b n (i + 1))
def ratT (rs : List tFrac.den) (a b : Int) : Nat → Nat → Bool
  | 0, _ => true
  | n + 1, i => okF (atF rs i).1 (atF rs i).2 && (decide (cmpF (atF rs i).1 (atF rs i).2 a b < 0) && (decide (i = 0 ∨ cmpF (atF rs (i - 1)).1 (atF rs (i - 1)).2 (atF rs i).1 (atF rs i).2 < 0) && ratT rs a b n (i + 1)))
theorem ordT_go (rs : List tFrac.den) (a b : Int) (i : Nat) (h : i < rs.length) : ordT rs a b (rs.length - i) i = (decide (cmpF (atF rs i).1 (atF rs i).2 a b < 0) && (decide (i = 0 ∨ cmpF (atF rs (i - 1)).1 (atF rs (i - 1)).2 (atF rs i).1 (atF rs i).2 < 0) && ordT rs a b (rs.length - (i + 1)) (i + 1))) := by
  rw [show rs.length - i = (rs.length - (i + 1)) + 1 by omega]; rfl
theorem ratT_go (rs : List tFrac.den) (a b : Int) (i : Nat) (h : i < rs.length) : ratT rs a b (rs.length - i) i = (okF (atF rs i).1 (atF rs i).2 && (decide (cmpF (atF rs i).1 (atF rs i).2 a b < 0) && (decide (i = 0 ∨ cmpF (atF rs (i - 1)).1 (atF rs (i - 1)).2 (atF rs i).1 (atF rs i).2 < 0) && ratT rs a b (rs.length - (i + 1)) (i + 1)))) := by
  rw [show rs.length - i = (rs.length - (i + 1)) + 1 by omega]; rfl
theorem rat_split (rs : List tFrac.den) (a b : Int) : ∀ (n i : Nat), i + n = rs.length → ratT rs a b n i = (okFs (rs.drop i) && ordT rs a b n i)
  | 0, i, h => by rw [show i = rs.length by omega, List.drop_length]; rfl
  | n + 1, i, h => by
    rw [okFs_drop rs i tFrac.zero (by omega)]
    show (okF _ _ && (decide _ && (decide _ && ratT rs a b n (i + 1)))) = (okF (atF rs i).1 (atF rs i).2 && _ && (decide _ && (decide _ && ordT rs a b n (i + 1))))
    rw [rat_split rs a b n (i + 1) (by omega)]
    generalize okF (atF rs i).1 (atF rs i).2 = b1
    generalize decide (cmpF (atF rs i).1 (atF rs i).2 a b < 0) = b2
    generalize decide (i = 0 ∨ cmpF (atF rs (i - 1)).1 (atF rs (i - 1)).2 (atF rs i).1 (atF rs i).2 < 0) = b3
    generalize okFs (rs.drop (i + 1)) = b4
    generalize ordT rs a b n (i + 1) = b5
    cases b1 <;> cases b2 <;> cases b3 <;> cases b4 <;> cases b5 <;> rfl
theorem okFs_get {xs : List tFrac.den} (h : okFs xs = true) (i : Nat) (hi : i < xs.length) : okF (atF xs i).1 (atF xs i).2 = true := by
  unfold atF
  rw [getD_lt _ _ _ hi]
  exact List.all_eq_true.1 h _ (List.getElem_mem hi)
def tuneF (x : tTuning.den) : Bool := okF x.1.1 x.1.2 && (decide (0 < x.1.1) && (okF x.2.1.1 x.2.1.2 && (decide (0 < cmpF x.2.1.1 x.2.1.2 1 1) && (decide (1 ≤ (x.2.2 : List tFrac.den).length ∧ (x.2.2 : List tFrac.den).length ≤ 24) && (decide ((atF x.2.2 0).1 = 1 ∧ (atF x.2.2 0).2 = 1) && ratT x.2.2 x.2.1.1 x.2.1.2 (x.2.2 : List tFrac.den).length 0)))))
def ann_isTuning_0 : LAnn := { sameS := [1, 47, 48], modS := [2, 49], sameH := [1], modH := [], base := 900000, nilE := [], nilB := [], G := fun
  | ⟨[.ptr 1 0, .view (.pair (.int .i64) (.int .i64)) rs, .int .i64 n], [.box [.int .i64 b1, .int .i64 b2, .int .i64 oa, .int .i64 ob, .view (.pair (.int .i64) (.int .i64)) zs]], [.bool r, .int .i64 i], []⟩ => some (.p ((0 ≤ i ∧ i ≤ n) ∧ n = (rs.length : Int) ∧ rs.length ≤ 24 ∧ zs = rs ∧ okFs rs = true ∧ okF oa ob = true), .ite (ordT rs oa ob (rs.length - i.toNat) i.toNat) (.leaf (.exit 0) [.bool r, .int .i64 n] []) (.leaf .ret [.bool false, .unk] []))
  | _ => none }
def ct_isTuning : Ct := ctOf [.s tTuning] (fun ((x : tTuning.den), _) => .p (((x.2.2 : List tFrac.den).length : Int) ≤ 9223372036854775807)) (fun ((x : tTuning.den), _) => .bool (tuneF x))
set_option maxHeartbeats 1000000 in
theorem loop_isTuning_0 : LoopSat Tryd.prog Tryd.f67.ntmps (loopAt Tryd.f67 0) ann_isTuning_0 := by
  refine loopSat_of (C := C_Fg) (L := (addL (firstId (loopAt Tryd.f67 0)) ann_isTuning_0 noL)) (wr := false) mixedOk C_Fg_ok (loopsIn0 (by kernel_rfl)) (fun d => match d.same, d.vals with | [_, _, .int _ n], [_, .int _ i] => (n - i).toNat | _, _ => 0) fun d p t hG hp => ?_
  simp only [ann_isTuning_0] at hG
  split at hG
  rotate_left
  · simp at hG
  rename_i rs n b1 b2 oa ob zs r i
  simp only [Option.some.injEq, Prod.mk.injEq] at hG
  obtain ⟨rfl, rfl⟩ := hG
  have htree : exRound Tryd.prog C_Fg false (addL (firstId (loopAt Tryd.f67 0)) ann_isTuning_0 noL) Tryd.f67.ntmps ann_isTuning_0 (loopAt Tryd.f67 0) ⟨[.ptr 1 0, .view tFrac rs, .int .i64 n], [.box [.int .i64 b1, .int .i64 b2, .int .i64 oa, .int .i64 ob, .view tFrac zs]], [.bool r, .int .i64 i], []⟩ = .ite (decide (i < n)) (.need ((0 : Int) ≤ i ∧ i < (↑rs.length : Int)) (.need ((((1 : Int) ≤ (getT tFrac rs i).snd ∧ (getT tFrac rs i).snd ≤ (1000000 : Int)) ∧ (-1000000000 : Int) ≤ (getT tFrac rs i).fst ∧ (getT tFrac rs i).fst ≤ (1000000000 : Int)) ∧ ((1 : Int) ≤ ob ∧ ob ≤ (1000000 : Int)) ∧ (-1000000000 : Int) ≤ oa ∧ oa ≤ (1000000000 : Int)) (.ite (decide ((0 : Int) ≤ cmpF (getT tFrac rs i).fst (getT tFrac rs i).snd oa ob)) (.leaf (.ret, ⟨[.ptr 1 0, .view (I64.pair I64) (rs), .int .i64 (n)], [.box [.int .i64 (b1), .int .i64 (b2), .int .i64 (oa), .int .i64 (ob), .view (I64.pair I64) (zs)]], [.bool (false), .int .i64 (i)], []⟩)) (.ite (decide ((0 : Int) < i)) (.need (inK IntKind.i64 (i - (1 : Int))) (.need ((0 : Int) ≤ i - (1 : Int) ∧ i - (1 : Int) < (↑zs.length : Int)) (.need ((((1 : Int) ≤ (getT tFrac zs (i - (1 : Int))).snd ∧ (getT tFrac zs (i - (1 : Int))).snd ≤ (1000000 : Int)) ∧ (-1000000000 : Int) ≤ (getT tFrac zs (i - (1 : Int))).fst ∧ (getT tFrac zs (i - (1 : Int))).fst ≤ (1000000000 : Int)) ∧ ((1 : Int) ≤ (getT tFrac rs i).snd ∧ (getT tFrac rs i).snd ≤ (1000000 : Int)) ∧ (-1000000000 : Int) ≤ (getT tFrac rs i).fst ∧ (getT tFrac rs i).fst ≤ (1000000000 : Int)) (.ite (decide ((0 : Int) ≤ cmpF (getT tFrac zs (i - (1 : Int))).fst (getT tFrac zs (i - (1 : Int))).snd (getT tFrac rs i).fst (getT tFrac rs i).snd)) (.leaf (.ret, ⟨[.ptr 1 0, .view (I64.pair I64) (rs), .int .i64 (n)], [.box [.int .i64 (b1), .int .i64 (b2), .int .i64 (oa), .int .i64 (ob), .view (I64.pair I64) (zs)]], [.bool (false), .int .i64 (i)], []⟩)) (.need (inK IntKind.i64 (i + (1 : Int))) (.leaf (.normal, ⟨[.ptr 1 0, .view (I64.pair I64) (rs), .int .i64 (n)], [.box [.int .i64 (b1), .int .i64 (b2), .int .i64 (oa), .int .i64 (ob), .view (I64.pair I64) (zs)]], [.bool (r), .int .i64 (i + (1 : Int))], []⟩))))))) (.need (inK IntKind.i64 (i + (1 : Int))) (.leaf (.normal, ⟨[.ptr 1 0, .view (I64.pair I64) (rs), .int .i64 (n)], [.box [.int .i64 (b1), .int .i64 (b2), .int .i64 (oa), .int .i64 (ob), .view (I64.pair I64) (zs)]], [.bool (r), .int .i64 (i + (1 : Int))], []⟩))))))) (.leaf ((.exit 0), ⟨[.ptr 1 0, .view (I64.pair I64) (rs), .int .i64 (n)], [.box [.int .i64 (b1), .int .i64 (b2), .int .i64 (oa), .int .i64 (ob), .view (I64.pair I64) (zs)]], [.bool (r), .int .i64 (i)], []⟩)) := by kernel_rfl
  rw [htree]
  clear htree
  replace hp : (0 ≤ i ∧ i ≤ n) ∧ n = (rs.length : Int) ∧ rs.length ≤ 24 ∧ zs = rs ∧ okFs rs = true ∧ okF oa ob = true := hp
  have hz : ∀ (l : List tFrac.den) (k : Int), getT tFrac l k = atF l k.toNat := fun _ _ => rfl
  obtain ⟨hi, hn, hl, rfl, hok, ho⟩ := hp
  have go := okF_bd ho
  simp only [Tree.ok, tyd_inj, packAV, AV.same, AV.same.sameL, encV, encS, enc, inK, Nd.ok, List.headD_cons, List.cons_append, List.nil_append, List.append_nil, true_and, and_true, Bool.true_and, Bool.and_true, loop_next, weakBs_nil, weakBs_cons, weakB_self, weakB_row, weakB_int, weakL_nil, weakL_unk, weakL_guess, isRow_own, isRow_unk, weakL_int, weakL_bool, weakL_str, weakL_own, weakL_view, weakL_nilS, noRow_int, noRow_bool, own_inj, LTree.val, cond_true, cond_false, Prod.mk.injEq, List.cons.injEq, AV.int.injEq, AV.bool.injEq, AV.str.injEq, AV.agg.injEq, ann_isTuning_0, decide_eq_true_eq, decide_eq_false_iff_not, hz]
  refine ⟨fun ha => ?_, fun ha => ?_⟩
  · have h1 := ordT_go zs oa ob i.toNat (by omega)
    have g1 := okF_bd (okFs_get hok i.toNat (by omega))
    have g2 := okF_bd (okFs_get hok (i.toNat - 1) (by omega))
    have h3 : 0 < i.toNat ↔ 0 < i := by omega
    rw [show (i + 1).toNat = i.toNat + 1 by omega, show (i - 1).toNat = i.toNat - 1 by omega, h1]
    generalize atF zs (i.toNat - 1) = p at *
    generalize atF zs i.toNat = q at *
    generalize cmpF q.1 q.2 oa ob = c1 at *
    generalize cmpF p.1 p.2 q.1 q.2 = c2 at *
    by_cases k1 : c1 < 0
    · rw [decide_eq_true k1, Bool.true_and]
      by_cases k2 : i.toNat = 0 ∨ c2 < 0
      · rw [decide_eq_true k2, Bool.true_and]
        repeat' first | apply And.intro | intro _
        all_goals first | omega | assumption | grind
      · rw [decide_eq_false k2, Bool.false_and]
        repeat' first | apply And.intro | intro _
        all_goals first | omega | assumption | (simp [Tree.ok, tyd_inj, packAV, AV.same, AV.same.sameL, encV, encS, enc, inK, Nd.ok, List.headD_cons, List.cons_append, List.nil_append, List.append_nil, true_and, and_true, Bool.true_and, Bool.and_true, loop_next, weakBs_nil, weakBs_cons, weakB_self, weakB_row, weakB_int, weakL_nil, weakL_unk, weakL_guess, isRow_own, isRow_unk, weakL_int, weakL_bool, weakL_str, weakL_own, weakL_view, weakL_nilS, noRow_int, noRow_bool, own_inj, LTree.val, cond_true, cond_false, Prod.mk.injEq, List.cons.injEq, AV.int.injEq, AV.bool.injEq, AV.str.injEq, AV.agg.injEq]; done) | grind
    · rw [decide_eq_false k1, Bool.false_and]
      repeat' first | apply And.intro | intro _
      all_goals first | omega | assumption | (simp [Tree.ok, tyd_inj, packAV, AV.same, AV.same.sameL, encV, encS, enc, inK, Nd.ok, List.headD_cons, List.cons_append, List.nil_append, List.append_nil, true_and, and_true, Bool.true_and, Bool.and_true, loop_next, weakBs_nil, weakBs_cons, weakB_self, weakB_row, weakB_int, weakL_nil, weakL_unk, weakL_guess, isRow_own, isRow_unk, weakL_int, weakL_bool, weakL_str, weakL_own, weakL_view, weakL_nilS, noRow_int, noRow_bool, own_inj, LTree.val, cond_true, cond_false, Prod.mk.injEq, List.cons.injEq, AV.int.injEq, AV.bool.injEq, AV.str.injEq, AV.agg.injEq]; done) | grind
  · have h1 : i.toNat = zs.length := by omega
    rw [h1, show zs.length - zs.length = 0 by omega]
    simp [Tree.ok, tyd_inj, packAV, AV.same, AV.same.sameL, encV, encS, enc, inK, Nd.ok, List.headD_cons, List.cons_append, List.nil_append, List.append_nil, true_and, and_true, Bool.true_and, Bool.and_true, loop_next, weakBs_nil, weakBs_cons, weakB_self, weakB_row, weakB_int, weakL_nil, weakL_unk, weakL_guess, isRow_own, isRow_unk, weakL_int, weakL_bool, weakL_str, weakL_own, weakL_view, weakL_nilS, noRow_int, noRow_bool, own_inj, LTree.val, cond_true, cond_false, Prod.mk.injEq, List.cons.injEq, AV.int.injEq, AV.bool.injEq, AV.str.injEq, AV.agg.injEq, ordT]
    omega
theorem loops_isTuning : ∀ c, Tryd.f67.body = some c → LoopsOk Tryd.prog (addL (firstId (loopAt Tryd.f67 0)) ann_isTuning_0 noL) Tryd.f67.ntmps c := loopsN fun i hi ann h => by
  have hn : loopN Tryd.f67 = 1 := by kernel_rfl
  rw [hn] at hi
  exact match i, hi, h with
    | 0, _, h => (Option.some.inj ((show (addL (firstId (loopAt Tryd.f67 0)) ann_isTuning_0 noL) (firstId (loopAt Tryd.f67 0)) = some ann_isTuning_0 from by kernel_rfl).symm.trans h)) ▸ loop_isTuning_0
set_option maxHeartbeats 1000000 in
theorem sat_isTuning : Sat Tryd.prog 67 ct_isTuning := by
  refine sat_typed (C := C_Fg) (L := (addL (firstId (loopAt Tryd.f67 0)) ann_isTuning_0 noL)) (wr := false) mixedOk Tryd.func67 C_Fg_ok (loops_isTuning) (fun _ => by first | rfl | (simp [ownsOf, ownsOf.ownsL, enc, encV, encS])) fun x hp => ?_
  obtain ⟨(x : tTuning.den), _⟩ := x
  replace hp : ((x.2.2 : List tFrac.den).length : Int) ≤ 9223372036854775807 := hp
  have htree : exFunc Tryd.prog C_Fg false (addL (firstId (loopAt Tryd.f67 0)) ann_isTuning_0 noL) Tryd.f67 (encA [.s tTuning] (x, ())) = .need ((↑[(x.fst.fst, x.fst.snd), (x.snd.fst.fst, x.snd.fst.snd)].length : Int) ≤ (9223372036854775807 : Int)) (.ite (!okFs [(x.fst.fst, x.fst.snd), (x.snd.fst.fst, x.snd.fst.snd)]) (.leaf [.lit false]) (.need ((↑(List.length x.snd.snd) : Int) ≤ (9223372036854775807 : Int)) (.ite (!okFs x.snd.snd) (.leaf [.lit false]) (.ite (decide (x.fst.fst ≤ (0 : Int))) (.leaf [.lit false]) (.need ((((1 : Int) ≤ x.snd.fst.snd ∧ x.snd.fst.snd ≤ (1000000 : Int)) ∧ (-1000000000 : Int) ≤ x.snd.fst.fst ∧ x.snd.fst.fst ≤ (1000000000 : Int)) ∧ ((1 : Int) ≤ (1 : Int) ∧ (1 : Int) ≤ (1000000 : Int)) ∧ (-1000000000 : Int) ≤ (1 : Int) ∧ (1 : Int) ≤ (1000000000 : Int)) (.ite (decide (cmpF x.snd.fst.fst x.snd.fst.snd (1 : Int) (1 : Int) ≤ (0 : Int))) (.leaf [.lit false]) (.need ((↑(List.length x.snd.snd) : Int) ≤ (9223372036854775807 : Int)) (.ite (!inB (↑(List.length x.snd.snd) : Int) (1 : Int) (24 : Int)) (.leaf [.lit false]) (.need ((0 : Int) ≤ (0 : Int) ∧ (0 : Int) < (↑(List.length x.snd.snd) : Int)) (.ite (!((getT tFrac x.snd.snd (0 : Int)).fst == (1 : Int) && (getT tFrac x.snd.snd (0 : Int)).snd == (1 : Int))) (.leaf [.lit false]) (.need (((0 : Int) ≤ (0 : Int) ∧ (0 : Int) ≤ (↑(List.length x.snd.snd) : Int)) ∧ (↑(List.length x.snd.snd) : Int) = (↑(List.length x.snd.snd) : Int) ∧ List.length x.snd.snd ≤ (24 : Nat) ∧ x.snd.snd = x.snd.snd ∧ okFs x.snd.snd = true ∧ okF x.snd.fst.fst x.snd.fst.snd = true) (.ite (ordT x.snd.snd x.snd.fst.fst x.snd.fst.snd (List.length x.snd.snd - Int.toNat (0 : Int)) (Int.toNat (0 : Int))) (.leaf [.lit true]) (.leaf [.bool (false)]))))))))))))) := by kernel_rfl
  refine (congrArg (Tree.ok _) htree).mpr ?_
  clear htree
  have hz : ∀ (l : List tFrac.den) (k : Int), getT tFrac l k = atF l k.toNat := fun _ _ => rfl
  have hs := rat_split x.2.2 x.2.1.1 x.2.1.2 (x.2.2 : List tFrac.den).length 0 (by omega)
  rw [List.drop_zero] at hs
  have h1 := @okF_bd x.2.1.1 x.2.1.2
  simp only [Tree.ok, tyd_inj, packAV, AV.same, AV.same.sameL, encV, encS, enc, inK, Nd.ok, List.headD_cons, List.cons_append, List.nil_append, List.append_nil, true_and, and_true, Bool.true_and, Bool.and_true, tuneF, hs, hz, okFs, List.all_cons, List.all_nil, List.length_cons, List.length_nil, Int.toNat_zero, Nat.sub_zero]
  clear hs hz
  generalize (List.all x.2.2 fun x => okF x.1 x.2) = w1 at *
  generalize ordT x.2.2 x.2.1.1 x.2.1.2 (List.length x.2.2) 0 = w2 at *
  generalize atF x.2.2 0 = w3 at *
  generalize (List.length x.2.2) = w4 at *
  generalize cmpF x.2.1.1 x.2.1.2 1 1 = w5 at *
  generalize okF x.2.1.1 x.2.1.2 = w6 at *
  generalize okF x.1.1 x.1.2 = w7 at *
  repeat' first | apply And.intro | intro _
  all_goals first | omega | grind [inB]
def C_Fh_1 : FuncId → Option Ct := addC 67 ct_isTuning C_Fg
theorem C_Fh_1_ok : COk Tryd.prog C_Fh_1 := addC_ok C_Fg_ok sat_isTuning
def ct_l15One : Ct := ctOf [] (fun _ => .tt) (fun _ => .agg (enc tFrac (1, 1)))
set_option maxHeartbeats 1000000 in
theorem sat_l15One : Sat Tryd.prog 112 ct_l15One := by
  refine sat_typed (C := C_Fh_1) (L := noL) (wr := false) mixedOk Tryd.func112 C_Fh_1_ok (loops0 (by kernel_rfl)) (fun _ => by first | rfl | (simp [ownsOf, ownsOf.ownsL, enc, encV, encS])) fun x hp => ?_
  obtain _ := x
  clear hp
  have htree : exFunc Tryd.prog C_Fh_1 false noL Tryd.f112 (encA [] ()) = .leaf [.agg [.int .i64 ((1 : Int)), .int .i64 ((1 : Int))]] := by kernel_rfl
  refine (congrArg (Tree.ok _) htree).mpr ?_
  clear htree
  simp [Tree.ok, tyd_inj, packAV, AV.same, AV.same.sameL, encV, encS, enc, inK, Nd.ok, List.headD_cons, List.cons_append, List.nil_append, List.append_nil, true_and, and_true, Bool.true_and, Bool.and_true]
def C_Fh_2 : FuncId → Option Ct := addC 112 ct_l15One C_Fh_1
theorem C_Fh_2_ok : COk Tryd.prog C_Fh_2 := addC_ok C_Fh_1_ok sat_l15One
def ann_l15Ok_0 : LAnn := { sameS := [0], modS := [2, 3], sameH := [], modH := [], base := 900000, nilE := [], nilB := [], G := fun
  | ⟨[.velt (.pair (.pair (.int .i64) (.int .i64)) (.pair (.pair (.int .i64) (.int .i64)) (.seq (.pair (.int .i64) (.int .i64))))) x 0], [], [.bool r, .int .i64 i], []⟩ => some (.p ((0 ≤ i ∧ i ≤ ((x.2.2 : List tFrac.den).length : Int)) ∧ (x.2.2 : List tFrac.den).length ≤ 24 ∧ okF x.2.1.1 x.2.1.2 = true ∧ (0 < i → okF (atF x.2.2 (i.toNat - 1)).1 (atF x.2.2 (i.toNat - 1)).2 = true)), .ite (ratT x.2.2 x.2.1.1 x.2.1.2 ((x.2.2 : List tFrac.den).length - i.toNat) i.toNat) (.leaf (.exit 0) [.bool r, .unk] []) (.leaf .ret [.bool false, .unk] []))
  | _ => none }
def ct_l15Ok : Ct := ctOf [.p tTuning] (fun ((x : tTuning.den), _) => .p (((x.2.2 : List tFrac.den).length : Int) ≤ 9223372036854775807)) (fun ((x : tTuning.den), _) => .bool (tuneF x))
set_option maxHeartbeats 1000000 in
theorem loop_l15Ok_0 : LoopSat Tryd.prog Tryd.f63.ntmps (loopAt Tryd.f63 0) ann_l15Ok_0 := by
  refine loopSat_of (C := C_Fh_2) (L := (addL (firstId (loopAt Tryd.f63 0)) ann_l15Ok_0 noL)) (wr := false) mixedOk C_Fh_2_ok (loopsIn0 (by kernel_rfl)) (fun d => match d.same, d.vals with | [.velt (.pair _ (.pair _ (.seq _))) x _], [_, .int _ i] => (((show List _ from x.2.2).length : Int) - i).toNat | _, _ => 0) fun d p t hG hp => ?_
  simp only [ann_l15Ok_0] at hG
  split at hG
  rotate_left
  · simp at hG
  rename_i x r i
  simp only [Option.some.injEq, Prod.mk.injEq] at hG
  obtain ⟨rfl, rfl⟩ := hG
  have htree : exRound Tryd.prog C_Fh_2 false (addL (firstId (loopAt Tryd.f63 0)) ann_l15Ok_0 noL) Tryd.f63.ntmps ann_l15Ok_0 (loopAt Tryd.f63 0) ⟨[.velt tTuning x 0], [], [.bool r, .int .i64 i], []⟩ = .ite (decide (i < (↑(List.length x.snd.snd) : Int))) (.need ((0 : Int) ≤ i ∧ i < (↑(List.length x.snd.snd) : Int)) (.ite (!okF (getT tFrac x.snd.snd i).fst (getT tFrac x.snd.snd i).snd) (.leaf (.ret, ⟨[.velt (tFrac.pair (tFrac.pair tFrac.seq)) (x) ((0 : Nat))], [], [.bool (false), .int .i64 (i)], []⟩)) (.need ((0 : Int) ≤ i ∧ i < (↑(List.length x.snd.snd) : Int)) (.need ((((1 : Int) ≤ (getT tFrac x.snd.snd i).snd ∧ (getT tFrac x.snd.snd i).snd ≤ (1000000 : Int)) ∧ (-1000000000 : Int) ≤ (getT tFrac x.snd.snd i).fst ∧ (getT tFrac x.snd.snd i).fst ≤ (1000000000 : Int)) ∧ ((1 : Int) ≤ x.snd.fst.snd ∧ x.snd.fst.snd ≤ (1000000 : Int)) ∧ (-1000000000 : Int) ≤ x.snd.fst.fst ∧ x.snd.fst.fst ≤ (1000000000 : Int)) (.ite (decide ((0 : Int) ≤ cmpF (getT tFrac x.snd.snd i).fst (getT tFrac x.snd.snd i).snd x.snd.fst.fst x.snd.fst.snd)) (.leaf (.ret, ⟨[.velt (tFrac.pair (tFrac.pair tFrac.seq)) (x) ((0 : Nat))], [], [.bool (false), .int .i64 (i)], []⟩)) (.ite (decide ((0 : Int) < i)) (.need (inK IntKind.i64 (i - (1 : Int))) (.need ((0 : Int) ≤ i - (1 : Int) ∧ i - (1 : Int) < (↑(List.length x.snd.snd) : Int)) (.need ((0 : Int) ≤ i ∧ i < (↑(List.length x.snd.snd) : Int)) (.need ((((1 : Int) ≤ (getT tFrac x.snd.snd (i - (1 : Int))).snd ∧ (getT tFrac x.snd.snd (i - (1 : Int))).snd ≤ (1000000 : Int)) ∧ (-1000000000 : Int) ≤ (getT tFrac x.snd.snd (i - (1 : Int))).fst ∧ (getT tFrac x.snd.snd (i - (1 : Int))).fst ≤ (1000000000 : Int)) ∧ ((1 : Int) ≤ (getT tFrac x.snd.snd i).snd ∧ (getT tFrac x.snd.snd i).snd ≤ (1000000 : Int)) ∧ (-1000000000 : Int) ≤ (getT tFrac x.snd.snd i).fst ∧ (getT tFrac x.snd.snd i).fst ≤ (1000000000 : Int)) (.ite (decide ((0 : Int) ≤ cmpF (getT tFrac x.snd.snd (i - (1 : Int))).fst (getT tFrac x.snd.snd (i - (1 : Int))).snd (getT tFrac x.snd.snd i).fst (getT tFrac x.snd.snd i).snd)) (.leaf (.ret, ⟨[.velt (tFrac.pair (tFrac.pair tFrac.seq)) (x) ((0 : Nat))], [], [.bool (false), .int .i64 (i)], []⟩)) (.need (inK IntKind.i64 (i + (1 : Int))) (.leaf (.normal, ⟨[.velt (tFrac.pair (tFrac.pair tFrac.seq)) (x) ((0 : Nat))], [], [.bool (r), .int .i64 (i + (1 : Int))], []⟩)))))))) (.need (inK IntKind.i64 (i + (1 : Int))) (.leaf (.normal, ⟨[.velt (tFrac.pair (tFrac.pair tFrac.seq)) (x) ((0 : Nat))], [], [.bool (r), .int .i64 (i + (1 : Int))], []⟩))))))))) (.leaf ((.exit 0), ⟨[.velt (tFrac.pair (tFrac.pair tFrac.seq)) (x) ((0 : Nat))], [], [.bool (r), .int .i64 (i)], []⟩)) := by kernel_rfl
  rw [htree]
  clear htree
  replace hp : (0 ≤ i ∧ i ≤ ((x.2.2 : List tFrac.den).length : Int)) ∧ (x.2.2 : List tFrac.den).length ≤ 24 ∧ okF x.2.1.1 x.2.1.2 = true ∧ (0 < i → okF (atF x.2.2 (i.toNat - 1)).1 (atF x.2.2 (i.toNat - 1)).2 = true) := hp
  have hz : ∀ (l : List tFrac.den) (k : Int), getT tFrac l k = atF l k.toNat := fun _ _ => rfl
  obtain ⟨hi, hl, ho, hq⟩ := hp
  have go := okF_bd ho
  simp only [Tree.ok, tyd_inj, packAV, AV.same, AV.same.sameL, encV, encS, enc, inK, Nd.ok, List.headD_cons, List.cons_append, List.nil_append, List.append_nil, true_and, and_true, Bool.true_and, Bool.and_true, loop_next, weakBs_nil, weakBs_cons, weakB_self, weakB_row, weakB_int, weakL_nil, weakL_unk, weakL_guess, isRow_own, isRow_unk, weakL_int, weakL_bool, weakL_str, weakL_own, weakL_view, weakL_nilS, noRow_int, noRow_bool, own_inj, LTree.val, cond_true, cond_false, Prod.mk.injEq, List.cons.injEq, AV.int.injEq, AV.bool.injEq, AV.str.injEq, AV.agg.injEq, ann_l15Ok_0, decide_eq_true_eq, decide_eq_false_iff_not, hz]
  refine ⟨fun ha => ?_, fun ha => ?_⟩
  · have h1 := ratT_go x.2.2 x.2.1.1 x.2.1.2 i.toNat (by omega)
    have g1 := @okF_bd (atF x.2.2 i.toNat).1 (atF x.2.2 i.toNat).2
    have g2 := @okF_bd (atF x.2.2 (i.toNat - 1)).1 (atF x.2.2 (i.toNat - 1)).2
    have h3 : 0 < i.toNat ↔ 0 < i := by omega
    rw [show (i + 1).toNat = i.toNat + 1 by omega, show (i - 1).toNat = i.toNat - 1 by omega, h1]
    simp only [Nat.add_sub_cancel]
    generalize atF x.2.2 (i.toNat - 1) = p at *
    generalize atF x.2.2 i.toNat = q at *
    generalize cmpF q.1 q.2 x.2.1.1 x.2.1.2 = c1 at *
    generalize cmpF p.1 p.2 q.1 q.2 = c2 at *
    by_cases k0 : okF q.1 q.2 = true
    · rw [k0, Bool.true_and]
      by_cases k1 : c1 < 0
      · rw [decide_eq_true k1, Bool.true_and]
        by_cases k2 : i.toNat = 0 ∨ c2 < 0
        · rw [decide_eq_true k2, Bool.true_and]
          repeat' first | apply And.intro | intro _
          all_goals first | omega | assumption | grind
        · rw [decide_eq_false k2, Bool.false_and]
          repeat' first | apply And.intro | intro _
          all_goals first | omega | assumption | (simp [Tree.ok, tyd_inj, packAV, AV.same, AV.same.sameL, encV, encS, enc, inK, Nd.ok, List.headD_cons, List.cons_append, List.nil_append, List.append_nil, true_and, and_true, Bool.true_and, Bool.and_true, loop_next, weakBs_nil, weakBs_cons, weakB_self, weakB_row, weakB_int, weakL_nil, weakL_unk, weakL_guess, isRow_own, isRow_unk, weakL_int, weakL_bool, weakL_str, weakL_own, weakL_view, weakL_nilS, noRow_int, noRow_bool, own_inj, LTree.val, cond_true, cond_false, Prod.mk.injEq, List.cons.injEq, AV.int.injEq, AV.bool.injEq, AV.str.injEq, AV.agg.injEq]; done) | grind
      · rw [decide_eq_false k1, Bool.false_and]
        repeat' first | apply And.intro | intro _
        all_goals first | omega | assumption | (simp [Tree.ok, tyd_inj, packAV, AV.same, AV.same.sameL, encV, encS, enc, inK, Nd.ok, List.headD_cons, List.cons_append, List.nil_append, List.append_nil, true_and, and_true, Bool.true_and, Bool.and_true, loop_next, weakBs_nil, weakBs_cons, weakB_self, weakB_row, weakB_int, weakL_nil, weakL_unk, weakL_guess, isRow_own, isRow_unk, weakL_int, weakL_bool, weakL_str, weakL_own, weakL_view, weakL_nilS, noRow_int, noRow_bool, own_inj, LTree.val, cond_true, cond_false, Prod.mk.injEq, List.cons.injEq, AV.int.injEq, AV.bool.injEq, AV.str.injEq, AV.agg.injEq]; done) | grind
    · rw [Bool.not_eq_true] at k0
      rw [k0, Bool.false_and]
      repeat' first | apply And.intro | intro _
      all_goals first | omega | assumption | (simp [Tree.ok, tyd_inj, packAV, AV.same, AV.same.sameL, encV, encS, enc, inK, Nd.ok, List.headD_cons, List.cons_append, List.nil_append, List.append_nil, true_and, and_true, Bool.true_and, Bool.and_true, loop_next, weakBs_nil, weakBs_cons, weakB_self, weakB_row, weakB_int, weakL_nil, weakL_unk, weakL_guess, isRow_own, isRow_unk, weakL_int, weakL_bool, weakL_str, weakL_own, weakL_view, weakL_nilS, noRow_int, noRow_bool, own_inj, LTree.val, cond_true, cond_false, Prod.mk.injEq, List.cons.injEq, AV.int.injEq, AV.bool.injEq, AV.str.injEq, AV.agg.injEq]; done) | grind
  · rw [show (List.length x.2.2) - i.toNat = 0 by omega]
    simp [Tree.ok, tyd_inj, packAV, AV.same, AV.same.sameL, encV, encS, enc, inK, Nd.ok, List.headD_cons, List.cons_append, List.nil_append, List.append_nil, true_and, and_true, Bool.true_and, Bool.and_true, loop_next, weakBs_nil, weakBs_cons, weakB_self, weakB_row, weakB_int, weakL_nil, weakL_unk, weakL_guess, isRow_own, isRow_unk, weakL_int, weakL_bool, weakL_str, weakL_own, weakL_view, weakL_nilS, noRow_int, noRow_bool, own_inj, LTree.val, cond_true, cond_false, Prod.mk.injEq, List.cons.injEq, AV.int.injEq, AV.bool.injEq, AV.str.injEq, AV.agg.injEq, ratT]
theorem loops_l15Ok : ∀ c, Tryd.f63.body = some c → LoopsOk Tryd.prog (addL (firstId (loopAt Tryd.f63 0)) ann_l15Ok_0 noL) Tryd.f63.ntmps c := loopsN fun i hi ann h => by
  have hn : loopN Tryd.f63 = 1 := by kernel_rfl
  rw [hn] at hi
  exact match i, hi, h with
    | 0, _, h => (Option.some.inj ((show (addL (firstId (loopAt Tryd.f63 0)) ann_l15Ok_0 noL) (firstId (loopAt Tryd.f63 0)) = some ann_l15Ok_0 from by kernel_rfl).symm.trans h)) ▸ loop_l15Ok_0
set_option maxHeartbeats 1000000 in
theorem sat_l15Ok : Sat Tryd.prog 63 ct_l15Ok := by
  refine sat_typed (C := C_Fh_2) (L := (addL (firstId (loopAt Tryd.f63 0)) ann_l15Ok_0 noL)) (wr := false) mixedOk Tryd.func63 C_Fh_2_ok (loops_l15Ok) (fun _ => by first | rfl | (simp [ownsOf, ownsOf.ownsL, enc, encV, encS])) fun x hp => ?_
  obtain ⟨(x : tTuning.den), _⟩ := x
  replace hp : ((x.2.2 : List tFrac.den).length : Int) ≤ 9223372036854775807 := hp
  have htree : exFunc Tryd.prog C_Fh_2 false (addL (firstId (loopAt Tryd.f63 0)) ann_l15Ok_0 noL) Tryd.f63 (encA [.p tTuning] (x, ())) = .ite (!okF x.fst.fst x.fst.snd) (.leaf [.lit false]) (.ite (decide (x.fst.fst ≤ (0 : Int))) (.leaf [.lit false]) (.ite (!okF x.snd.fst.fst x.snd.fst.snd) (.leaf [.lit false]) (.need ((((1 : Int) ≤ x.snd.fst.snd ∧ x.snd.fst.snd ≤ (1000000 : Int)) ∧ (-1000000000 : Int) ≤ x.snd.fst.fst ∧ x.snd.fst.fst ≤ (1000000000 : Int)) ∧ ((1 : Int) ≤ (1 : I64.den) ∧ (1 : I64.den) ≤ (1000000 : Int)) ∧ (-1000000000 : Int) ≤ (1 : I64.den) ∧ (1 : I64.den) ≤ (1000000000 : Int)) (.ite (decide (cmpF x.snd.fst.fst x.snd.fst.snd (1 : I64.den) (1 : I64.den) ≤ (0 : Int))) (.leaf [.lit false]) (.ite (!inB (↑(List.length x.snd.snd) : Int) (1 : Int) (24 : Int)) (.leaf [.lit false]) (.need ((0 : Int) ≤ (0 : Int) ∧ (0 : Int) < (↑(List.length x.snd.snd) : Int)) (.ite (!((getT tFrac x.snd.snd (0 : Int)).fst == (1 : I64.den) && (getT tFrac x.snd.snd (0 : Int)).snd == (1 : I64.den))) (.leaf [.lit false]) (.need (((0 : Int) ≤ (0 : Int) ∧ (0 : Int) ≤ (↑(List.length x.snd.snd) : Int)) ∧ List.length x.snd.snd ≤ (24 : Nat) ∧ okF x.snd.fst.fst x.snd.fst.snd = true ∧ ((0 : Int) < (0 : Int) → okF (atF x.snd.snd (Int.toNat (0 : Int) - (1 : Nat))).fst (atF x.snd.snd (Int.toNat (0 : Int) - (1 : Nat))).snd = true)) (.ite (ratT x.snd.snd x.snd.fst.fst x.snd.fst.snd (List.length x.snd.snd - Int.toNat (0 : Int)) (Int.toNat (0 : Int))) (.leaf [.lit true]) (.leaf [.bool (false)])))))))))) := by kernel_rfl
  refine (congrArg (Tree.ok _) htree).mpr ?_
  clear htree
  have hz : ∀ (l : List tFrac.den) (k : Int), getT tFrac l k = atF l k.toNat := fun _ _ => rfl
  have h1 := @okF_bd x.2.1.1 x.2.1.2
  simp only [Tree.ok, tyd_inj, packAV, AV.same, AV.same.sameL, encV, encS, enc, inK, Nd.ok, List.headD_cons, List.cons_append, List.nil_append, List.append_nil, true_and, and_true, Bool.true_and, Bool.and_true, tuneF, hz, Int.toNat_zero, Nat.sub_zero]
  clear hz
  generalize ratT x.2.2 x.2.1.1 x.2.1.2 (List.length x.2.2) 0 = w2 at *
  generalize atF x.2.2 0 = w3 at *
  generalize cmpF x.2.1.1 x.2.1.2 1 1 = w5 at *
  generalize okF x.2.1.1 x.2.1.2 = w6 at *
  generalize okF x.1.1 x.1.2 = w7 at *
  generalize (List.length x.2.2) = w4 at *
  repeat' first | apply And.intro | intro _
  all_goals first | omega | grind [inB]
def C_Fh_3 : FuncId → Option Ct := addC 63 ct_l15Ok C_Fh_2
theorem C_Fh_3_ok : COk Tryd.prog C_Fh_3 := addC_ok C_Fh_2_ok sat_l15Ok

def C_Fh : FuncId → Option Ct := C_Fh_3
theorem C_Fh_ok : COk Tryd.prog C_Fh := C_Fh_3_ok
end Go.Proofs.YtkeckmdmmbeaiaaDoor
