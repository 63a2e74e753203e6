/- Contracts: tunings taken over, compared, counted, valid; the program and the reference. Conditions: as each says. -/
import Derived.Test.YtkeckmdmmbeaiaaDoorFf
set_option linter.unusedSimpArgs false
set_option linter.unusedVariables false
namespace Go.Proofs.YtkeckmdmmbeaiaaDoor
open Go.RowKit Sx
set_option maxRecDepth 100000
set_option maxHeartbeats 1000000
abbrev tTuning : Ty := .pair tFrac (.pair tFrac (.seq tFrac))
def ann_toFracS_0 : LAnn := { sameS := [0], modS := [3, 4], sameH := [], modH := [], base := 900000, nilE := [], nilB := [], G := fun
  | ⟨[.view (.pair (.int .i64) (.int .i64)) ys], [], [.own (.pair (.int .i64) (.int .i64)) xs, .int .i64 i], []⟩ => some (.p ((0 ≤ i ∧ i ≤ (ys.length : Int)) ∧ xs.length = ys.length ∧ ys.length ≤ 16777216), .leaf (.exit 0) [.own tFrac (xs.take i.toNat ++ ys.drop i.toNat), .int .i64 (ys.length : Int)] [])
  | _ => none }
def ct_toFracS : Ct := ctOf [.v qFrac] (fun ((ys : List tFrac.den), _) => .p (ys.length ≤ 16777216)) (fun ((ys : List tFrac.den), _) => .own tFrac ys)
set_option maxHeartbeats 1000000 in
theorem loop_toFracS_0 : LoopSat Tryd.prog Tryd.f66.ntmps (loopAt Tryd.f66 0) ann_toFracS_0 := by
  refine loopSat_of (C := C_Ff) (L := (addL (firstId (loopAt Tryd.f66 0)) ann_toFracS_0 noL)) (wr := false) mixedOk C_Ff_ok (loopsIn0 (by kernel_rfl)) (fun d => match d.same, d.vals with | [.view _ ys], [_, .int _ i] => ((ys.length : Int) - i).toNat | _, _ => 0) fun d p t hG hp => ?_
  simp only [ann_toFracS_0] at hG
  split at hG
  rotate_left
  · simp at hG
  rename_i ys xs i
  simp only [Option.some.injEq, Prod.mk.injEq] at hG
  obtain ⟨rfl, rfl⟩ := hG
  have htree : exRound Tryd.prog C_Ff false (addL (firstId (loopAt Tryd.f66 0)) ann_toFracS_0 noL) Tryd.f66.ntmps ann_toFracS_0 (loopAt Tryd.f66 0) ⟨[.view tFrac ys], [], [.own tFrac xs, .int .i64 i], []⟩ = .ite (decide (i < (↑ys.length : Int))) (.need ((0 : Int) ≤ i ∧ i < (↑ys.length : Int)) (.need ((0 : Int) ≤ i ∧ i < (↑xs.length : Int)) (.need (i.toNat < xs.length) (.need (inK IntKind.i64 (i + (1 : Int))) (.leaf (.normal, ⟨[.view (I64.pair I64) (ys)], [], [.own (I64.pair I64) (xs.set i.toNat ((getT tFrac ys i).fst, (getT tFrac ys i).snd)), .int .i64 (i + (1 : Int))], []⟩)))))) (.leaf ((.exit 0), ⟨[.view (I64.pair I64) (ys)], [], [.own (I64.pair I64) (xs), .int .i64 (i)], []⟩)) := by kernel_rfl
  rw [htree]
  clear htree
  replace hp : (0 ≤ i ∧ i ≤ (ys.length : Int)) ∧ xs.length = ys.length ∧ ys.length ≤ 16777216 := hp
  simp only [Tree.ok, tyd_inj, packAV, AV.same, AV.same.sameL, encV, encS, enc, inK, Nd.ok, List.headD_cons, List.cons_append, List.nil_append, List.append_nil, true_and, and_true, Bool.true_and, Bool.and_true, loop_next, weakBs_nil, weakBs_cons, weakB_self, weakB_row, weakB_int, weakL_nil, weakL_unk, weakL_guess, isRow_own, isRow_unk, weakL_int, weakL_bool, weakL_str, weakL_own, weakL_view, weakL_nilS, noRow_int, noRow_bool, own_inj, LTree.val, cond_true, cond_false, Prod.mk.injEq, List.cons.injEq, AV.int.injEq, AV.bool.injEq, AV.str.injEq, AV.agg.injEq, ann_toFracS_0, decide_eq_true_eq, decide_eq_false_iff_not]
  refine ⟨fun ha => ?_, fun ha => ?_⟩
  · have h1 := set_front xs ys i.toNat tFrac.zero (by omega) hp.2.1
    refine ⟨by omega, by omega, by omega, by omega, by omega, ⟨by omega, by rw [List.length_set]; exact hp.2.1, hp.2.2⟩, ?_⟩
    rw [show (i + 1).toNat = i.toNat + 1 by omega]
    exact h1
  · have h1 : i.toNat = ys.length := by omega
    rw [h1]
    exact ⟨by simp [List.take_of_length_le (show xs.length ≤ ys.length by omega)], by omega⟩
theorem loops_toFracS : ∀ c, Tryd.f66.body = some c → LoopsOk Tryd.prog (addL (firstId (loopAt Tryd.f66 0)) ann_toFracS_0 noL) Tryd.f66.ntmps c := loopsN fun i hi ann h => by
  have hn : loopN Tryd.f66 = 1 := by kernel_rfl
  rw [hn] at hi
  exact match i, hi, h with
    | 0, _, h => (Option.some.inj ((show (addL (firstId (loopAt Tryd.f66 0)) ann_toFracS_0 noL) (firstId (loopAt Tryd.f66 0)) = some ann_toFracS_0 from by kernel_rfl).symm.trans h)) ▸ loop_toFracS_0
set_option maxHeartbeats 1000000 in
theorem sat_toFracS : Sat Tryd.prog 66 ct_toFracS := by
  refine sat_typed (C := C_Ff) (L := (addL (firstId (loopAt Tryd.f66 0)) ann_toFracS_0 noL)) (wr := false) mixedOk Tryd.func66 C_Ff_ok (loops_toFracS) (fun _ => by first | rfl | (simp [ownsOf, ownsOf.ownsL, enc, encV, encS])) fun x hp => ?_
  obtain ⟨(ys : List tFrac.den), _⟩ := x
  replace hp : ys.length ≤ 16777216 := hp
  have htree : exFunc Tryd.prog C_Ff false (addL (firstId (loopAt Tryd.f66 0)) ann_toFracS_0 noL) Tryd.f66 (encA [.v qFrac] (ys, ())) = .need ((0 : Int) ≤ (↑ys.length : Int) ∧ (↑ys.length : Int) ≤ (↑ys.length : Int) ∧ (↑ys.length : Int) ≤ (16777216 : Int)) (.need (((0 : Int) ≤ (0 : Int) ∧ (0 : Int) ≤ (↑ys.length : Int)) ∧ (List.replicate (↑ys.length : Int).toNat ((0 : Int), (0 : Int))).length = ys.length ∧ ys.length ≤ (16777216 : Nat)) (.leaf [.own (I64.pair I64) (List.take (Int.toNat (0 : Int)) (List.replicate (↑ys.length : Int).toNat ((0 : Int), (0 : Int))) ++ List.drop (Int.toNat (0 : Int)) ys)])) := by kernel_rfl
  refine (congrArg (Tree.ok _) htree).mpr ?_
  clear htree
  simp [Tree.ok, tyd_inj, packAV, AV.same, AV.same.sameL, encV, encS, enc, inK, Nd.ok, List.headD_cons, List.cons_append, List.nil_append, List.append_nil, true_and, and_true, Bool.true_and, Bool.and_true]
  omega
def C_Fg_1 : FuncId → Option Ct := addC 66 ct_toFracS C_Ff
theorem C_Fg_1_ok : COk Tryd.prog C_Fg_1 := addC_ok C_Ff_ok sat_toFracS
def ct_szFracS : Ct := ctOf [.v qFrac, .v (.int .i64)] (fun ((ys : List tFrac.den), (n : Int), _) => .p ((0 ≤ n ∧ n ≤ 1048576) ∧ (ys.length : Int) ≤ 9223372036854775807)) (fun ((ys : List tFrac.den), (n : Int), _) => .int .i64 (if n - (ys.length : Int) < 0 then -1 else n - (ys.length : Int)))
set_option maxHeartbeats 1000000 in
theorem sat_szFracS : Sat Tryd.prog 62 ct_szFracS := by
  refine sat_typed (C := C_Fg_1) (L := noL) (wr := false) mixedOk Tryd.func62 C_Fg_1_ok (loops0 (by kernel_rfl)) (fun _ => by first | rfl | (simp [ownsOf, ownsOf.ownsL, enc, encV, encS])) fun x hp => ?_
  obtain ⟨(ys : List tFrac.den), (n : Int), _⟩ := x
  replace hp : (0 ≤ n ∧ n ≤ 1048576) ∧ (ys.length : Int) ≤ 9223372036854775807 := hp
  have htree : exFunc Tryd.prog C_Fg_1 false noL Tryd.f62 (encA [.v qFrac, .v (.int .i64)] (ys, n, ())) = .need (inK IntKind.i64 (n - (↑ys.length : Int))) (.ite (decide (n - (↑ys.length : Int) < (0 : Int))) (.leaf [.int .i64 ((-1 : Int))]) (.leaf [.int .i64 (n - (↑ys.length : Int))])) := by kernel_rfl
  refine (congrArg (Tree.ok _) htree).mpr ?_
  clear htree
  simp only [Tree.ok, tyd_inj, packAV, AV.same, AV.same.sameL, encV, encS, enc, inK, Nd.ok, List.headD_cons, List.cons_append, List.nil_append, List.append_nil, true_and, and_true, Bool.true_and, Bool.and_true]
  grind
def C_Fg_2 : FuncId → Option Ct := addC 62 ct_szFracS C_Fg_1
theorem C_Fg_2_ok : COk Tryd.prog C_Fg_2 := addC_ok C_Fg_1_ok sat_szFracS
def ann_eqFracS_0 : LAnn := { sameS := [0, 1], modS := [4, 5], sameH := [], modH := [], base := 900000, nilE := [], nilB := [], G := fun
  | ⟨[.view (.pair (.int .i64) (.int .i64)) xs, .view (.pair (.int .i64) (.int .i64)) ys], [], [.bool r, .int .i64 i], []⟩ => some (.p ((0 ≤ i ∧ i ≤ (xs.length : Int)) ∧ xs.length = ys.length ∧ (xs.length : Int) ≤ 9223372036854775807), .ite (decide (xs.drop i.toNat = ys.drop i.toNat)) (.leaf (.exit 0) [.bool r, .int .i64 (xs.length : Int)] []) (.leaf .ret [.bool false, .unk] []))
  | _ => none }
def ct_eqFracS : Ct := ctOf [.v qFrac, .v qFrac] (fun ((xs : List tFrac.den), (ys : List tFrac.den), _) => .p ((xs.length : Int) ≤ 9223372036854775807)) (fun ((xs : List tFrac.den), (ys : List tFrac.den), _) => .bool (decide (xs = ys)))
set_option maxHeartbeats 1000000 in
theorem loop_eqFracS_0 : LoopSat Tryd.prog Tryd.f70.ntmps (loopAt Tryd.f70 0) ann_eqFracS_0 := by
  refine loopSat_of (C := C_Fg_2) (L := (addL (firstId (loopAt Tryd.f70 0)) ann_eqFracS_0 noL)) (wr := false) mixedOk C_Fg_2_ok (loopsIn0 (by kernel_rfl)) (fun d => match d.same, d.vals with | [.view _ xs, _], [_, .int _ i] => ((xs.length : Int) - i).toNat | _, _ => 0) fun d p t hG hp => ?_
  simp only [ann_eqFracS_0] at hG
  split at hG
  rotate_left
  · simp at hG
  rename_i xs ys r i
  simp only [Option.some.injEq, Prod.mk.injEq] at hG
  obtain ⟨rfl, rfl⟩ := hG
  have htree : exRound Tryd.prog C_Fg_2 false (addL (firstId (loopAt Tryd.f70 0)) ann_eqFracS_0 noL) Tryd.f70.ntmps ann_eqFracS_0 (loopAt Tryd.f70 0) ⟨[.view tFrac xs, .view tFrac ys], [], [.bool r, .int .i64 i], []⟩ = .ite (decide (i < (↑xs.length : Int))) (.need ((0 : Int) ≤ i ∧ i < (↑xs.length : Int)) (.need ((0 : Int) ≤ i ∧ i < (↑ys.length : Int)) (.ite (!decide ((getT tFrac xs i).fst = (getT tFrac ys i).fst ∧ (getT tFrac xs i).snd = (getT tFrac ys i).snd)) (.leaf (.ret, ⟨[.view (I64.pair I64) (xs), .view (I64.pair I64) (ys)], [], [.bool (false), .int .i64 (i)], []⟩)) (.need (inK IntKind.i64 (i + (1 : Int))) (.leaf (.normal, ⟨[.view (I64.pair I64) (xs), .view (I64.pair I64) (ys)], [], [.bool (r), .int .i64 (i + (1 : Int))], []⟩)))))) (.leaf ((.exit 0), ⟨[.view (I64.pair I64) (xs), .view (I64.pair I64) (ys)], [], [.bool (r), .int .i64 (i)], []⟩)) := by kernel_rfl
  rw [htree]
  clear htree
  replace hp : (0 ≤ i ∧ i ≤ (xs.length : Int)) ∧ xs.length = ys.length ∧ (xs.length : Int) ≤ 9223372036854775807 := hp
  simp only [Tree.ok, tyd_inj, packAV, AV.same, AV.same.sameL, encV, encS, enc, inK, Nd.ok, List.headD_cons, List.cons_append, List.nil_append, List.append_nil, true_and, and_true, Bool.true_and, Bool.and_true, loop_next, weakBs_nil, weakBs_cons, weakB_self, weakB_row, weakB_int, weakL_nil, weakL_unk, weakL_guess, isRow_own, isRow_unk, weakL_int, weakL_bool, weakL_str, weakL_own, weakL_view, weakL_nilS, noRow_int, noRow_bool, own_inj, LTree.val, cond_true, cond_false, Prod.mk.injEq, List.cons.injEq, AV.int.injEq, AV.bool.injEq, AV.str.injEq, AV.agg.injEq, ann_eqFracS_0, decide_eq_true_eq, decide_eq_false_iff_not, bne_iff_ne, ne_eq, bne_eq_false_iff_eq, getT]
  refine ⟨fun ha => ?_, fun ha => ?_⟩
  · have h1 := drop_eq_iff xs ys i.toNat tFrac.zero (by omega) (by omega)
    simp only [Prod.ext_iff] at h1 ⊢
    rw [show (i + 1).toNat = i.toNat + 1 by omega]
    repeat' first | apply And.intro | intro _
    all_goals first
      | omega
      | (rw [decide_eq_false (show ¬ (xs.drop i.toNat = ys.drop i.toNat) by grind)]; simp [Tree.ok, tyd_inj, packAV, AV.same, AV.same.sameL, encV, encS, enc, inK, Nd.ok, List.headD_cons, List.cons_append, List.nil_append, List.append_nil, true_and, and_true, Bool.true_and, Bool.and_true, loop_next, weakBs_nil, weakBs_cons, weakB_self, weakB_row, weakB_int, weakL_nil, weakL_unk, weakL_guess, isRow_own, isRow_unk, weakL_int, weakL_bool, weakL_str, weakL_own, weakL_view, weakL_nilS, noRow_int, noRow_bool, own_inj, LTree.val, cond_true, cond_false, Prod.mk.injEq, List.cons.injEq, AV.int.injEq, AV.bool.injEq, AV.str.injEq, AV.agg.injEq]; done)
      | rw [show decide (xs.drop i.toNat = ys.drop i.toNat) = decide (xs.drop (i.toNat + 1) = ys.drop (i.toNat + 1)) by grind]
  · have h1 : i.toNat = xs.length := by omega
    have h2 : xs.length = ys.length := by omega
    rw [h1, decide_eq_true (show xs.drop xs.length = ys.drop xs.length by rw [List.drop_length, h2, List.drop_length])]
    simp [Tree.ok, tyd_inj, packAV, AV.same, AV.same.sameL, encV, encS, enc, inK, Nd.ok, List.headD_cons, List.cons_append, List.nil_append, List.append_nil, true_and, and_true, Bool.true_and, Bool.and_true, loop_next, weakBs_nil, weakBs_cons, weakB_self, weakB_row, weakB_int, weakL_nil, weakL_unk, weakL_guess, isRow_own, isRow_unk, weakL_int, weakL_bool, weakL_str, weakL_own, weakL_view, weakL_nilS, noRow_int, noRow_bool, own_inj, LTree.val, cond_true, cond_false, Prod.mk.injEq, List.cons.injEq, AV.int.injEq, AV.bool.injEq, AV.str.injEq, AV.agg.injEq]
    omega
theorem loops_eqFracS : ∀ c, Tryd.f70.body = some c → LoopsOk Tryd.prog (addL (firstId (loopAt Tryd.f70 0)) ann_eqFracS_0 noL) Tryd.f70.ntmps c := loopsN fun i hi ann h => by
  have hn : loopN Tryd.f70 = 1 := by kernel_rfl
  rw [hn] at hi
  exact match i, hi, h with
    | 0, _, h => (Option.some.inj ((show (addL (firstId (loopAt Tryd.f70 0)) ann_eqFracS_0 noL) (firstId (loopAt Tryd.f70 0)) = some ann_eqFracS_0 from by kernel_rfl).symm.trans h)) ▸ loop_eqFracS_0
set_option maxHeartbeats 1000000 in
theorem sat_eqFracS : Sat Tryd.prog 70 ct_eqFracS := by
  refine sat_typed (C := C_Fg_2) (L := (addL (firstId (loopAt Tryd.f70 0)) ann_eqFracS_0 noL)) (wr := false) mixedOk Tryd.func70 C_Fg_2_ok (loops_eqFracS) (fun _ => by first | rfl | (simp [ownsOf, ownsOf.ownsL, enc, encV, encS])) fun x hp => ?_
  obtain ⟨(xs : List tFrac.den), (ys : List tFrac.den), _⟩ := x
  replace hp : (xs.length : Int) ≤ 9223372036854775807 := hp
  have htree : exFunc Tryd.prog C_Fg_2 false (addL (firstId (loopAt Tryd.f70 0)) ann_eqFracS_0 noL) Tryd.f70 (encA [.v qFrac, .v qFrac] (xs, ys, ())) = .ite ((↑xs.length : Int) != (↑ys.length : Int)) (.leaf [.lit false]) (.need (((0 : Int) ≤ (0 : Int) ∧ (0 : Int) ≤ (↑xs.length : Int)) ∧ xs.length = ys.length ∧ (↑xs.length : Int) ≤ (9223372036854775807 : Int)) (.ite (decide (List.drop (Int.toNat (0 : Int)) xs = List.drop (Int.toNat (0 : Int)) ys)) (.leaf [.lit true]) (.leaf [.bool (false)]))) := by kernel_rfl
  refine (congrArg (Tree.ok _) htree).mpr ?_
  clear htree
  simp only [Tree.ok, tyd_inj, packAV, AV.same, AV.same.sameL, encV, encS, enc, inK, Nd.ok, List.headD_cons, List.cons_append, List.nil_append, List.append_nil, true_and, and_true, Bool.true_and, Bool.and_true, Int.toNat_zero, List.drop_zero, decide_eq_true_eq, decide_eq_false_iff_not, bne_iff_ne, ne_eq, bne_eq_false_iff_eq]
  repeat' first | apply And.intro | intro _
  all_goals grind
def C_Fg_3 : FuncId → Option Ct := addC 70 ct_eqFracS C_Fg_2
theorem C_Fg_3_ok : COk Tryd.prog C_Fg_3 := addC_ok C_Fg_2_ok sat_eqFracS
def ct_szTuning : Ct := ctOf [.s tTuning, .v (.int .i64)] (fun ((x : tTuning.den), (n : Int), _) => .p ((0 ≤ n ∧ n ≤ 1048576) ∧ ((x.2.2 : List tFrac.den).length : Int) ≤ 9223372036854775807)) (fun ((x : tTuning.den), (n : Int), _) => .int .i64 (if n - ((x.2.2 : List tFrac.den).length : Int) < 0 then -1 else n - ((x.2.2 : List tFrac.den).length : Int)))
set_option maxHeartbeats 1000000 in
theorem sat_szTuning : Sat Tryd.prog 18 ct_szTuning := by
  refine sat_typed (C := C_Fg_3) (L := noL) (wr := false) mixedOk Tryd.func18 C_Fg_3_ok (loops0 (by kernel_rfl)) (fun _ => by first | rfl | (simp [ownsOf, ownsOf.ownsL, enc, encV, encS])) fun x hp => ?_
  obtain ⟨(x : tTuning.den), (n : Int), _⟩ := x
  replace hp : (0 ≤ n ∧ n ≤ 1048576) ∧ ((x.2.2 : List tFrac.den).length : Int) ≤ 9223372036854775807 := hp
  have htree : exFunc Tryd.prog C_Fg_3 false noL Tryd.f18 (encA [.s tTuning, .v (.int .i64)] (x, n, ())) = .need (((0 : Int) ≤ n ∧ n ≤ (1048576 : Int)) ∧ (↑(List.length x.snd.snd) : Int) ≤ (9223372036854775807 : Int)) (.ite (decide ((if n - (↑(List.length x.snd.snd) : Int) < (0 : Int) then (-1 : Int) else n - (↑(List.length x.snd.snd) : Int)) < (0 : Int))) (.leaf [.int .i64 ((-1 : Int))]) (.leaf [.int .i64 (if n - (↑(List.length x.snd.snd) : Int) < (0 : Int) then (-1 : Int) else n - (↑(List.length x.snd.snd) : Int))])) := by kernel_rfl
  refine (congrArg (Tree.ok _) htree).mpr ?_
  clear htree
  simp only [Tree.ok, tyd_inj, packAV, AV.same, AV.same.sameL, encV, encS, enc, inK, Nd.ok, List.headD_cons, List.cons_append, List.nil_append, List.append_nil, true_and, and_true, Bool.true_and, Bool.and_true]
  grind
def C_Fg_4 : FuncId → Option Ct := addC 18 ct_szTuning C_Fg_3
theorem C_Fg_4_ok : COk Tryd.prog C_Fg_4 := addC_ok C_Fg_3_ok sat_szTuning
def ct_toTuning : Ct := ctOf [.s tTuning] (fun ((x : tTuning.den), _) => .p ((x.2.2 : List tFrac.den).length ≤ 16777216)) (fun ((x : tTuning.den), _) => .agg [.int .i64 x.1.1, .int .i64 x.1.2, .int .i64 x.2.1.1, .int .i64 x.2.1.2, .own tFrac x.2.2])
set_option maxHeartbeats 1000000 in
theorem sat_toTuning : Sat Tryd.prog 20 ct_toTuning := by
  refine sat_typed (C := C_Fg_4) (L := noL) (wr := false) mixedOk Tryd.func20 C_Fg_4_ok (loops0 (by kernel_rfl)) (fun _ => by first | rfl | (simp [ownsOf, ownsOf.ownsL, enc, encV, encS])) fun x hp => ?_
  obtain ⟨(x : tTuning.den), _⟩ := x
  replace hp : (x.2.2 : List tFrac.den).length ≤ 16777216 := hp
  have htree : exFunc Tryd.prog C_Fg_4 false noL Tryd.f20 (encA [.s tTuning] (x, ())) = .need (List.length x.snd.snd ≤ (16777216 : Nat)) (.leaf [.agg [.int .i64 (x.fst.fst), .int .i64 (x.fst.snd), .int .i64 (x.snd.fst.fst), .int .i64 (x.snd.fst.snd), .own (I64.pair I64) (x.snd.snd)]]) := by kernel_rfl
  refine (congrArg (Tree.ok _) htree).mpr ?_
  clear htree
  simp [Tree.ok, tyd_inj, packAV, AV.same, AV.same.sameL, encV, encS, enc, inK, Nd.ok, List.headD_cons, List.cons_append, List.nil_append, List.append_nil, true_and, and_true, Bool.true_and, Bool.and_true]
  omega
def C_Fg_5 : FuncId → Option Ct := addC 20 ct_toTuning C_Fg_4
theorem C_Fg_5_ok : COk Tryd.prog C_Fg_5 := addC_ok C_Fg_4_ok sat_toTuning
def ct_eqTuning : Ct := ctOf [.s tTuning, .s tTuning] (fun ((x : tTuning.den), (y : tTuning.den), _) => .p (((x.2.2 : List tFrac.den).length : Int) ≤ 9223372036854775807)) (fun ((x : tTuning.den), (y : tTuning.den), _) => .bool (decide (x.1.1 = y.1.1 ∧ x.1.2 = y.1.2 ∧ x.2.1.1 = y.2.1.1 ∧ x.2.1.2 = y.2.1.2 ∧ (x.2.2 : List tFrac.den) = y.2.2)))
set_option maxHeartbeats 1000000 in
theorem sat_eqTuning : Sat Tryd.prog 22 ct_eqTuning := by
  refine sat_typed (C := C_Fg_5) (L := noL) (wr := false) mixedOk Tryd.func22 C_Fg_5_ok (loops0 (by kernel_rfl)) (fun _ => by first | rfl | (simp [ownsOf, ownsOf.ownsL, enc, encV, encS])) fun x hp => ?_
  obtain ⟨(x : tTuning.den), (y : tTuning.den), _⟩ := x
  replace hp : ((x.2.2 : List tFrac.den).length : Int) ≤ 9223372036854775807 := hp
  have htree : exFunc Tryd.prog C_Fg_5 false noL Tryd.f22 (encA [.s tTuning, .s tTuning] (x, y, ())) = .ite (!decide (x.fst.fst = y.fst.fst ∧ x.fst.snd = y.fst.snd)) (.leaf [.lit false]) (.ite (!decide (x.snd.fst.fst = y.snd.fst.fst ∧ x.snd.fst.snd = y.snd.fst.snd)) (.leaf [.lit false]) (.need ((↑(List.length x.snd.snd) : Int) ≤ (9223372036854775807 : Int)) (.ite (!decide (x.snd.snd = y.snd.snd)) (.leaf [.lit false]) (.leaf [.lit true])))) := by kernel_rfl
  refine (congrArg (Tree.ok _) htree).mpr ?_
  clear htree
  simp only [Tree.ok, tyd_inj, packAV, AV.same, AV.same.sameL, encV, encS, enc, inK, Nd.ok, List.headD_cons, List.cons_append, List.nil_append, List.append_nil, true_and, and_true, Bool.true_and, Bool.and_true]
  repeat' first | apply And.intro | intro _
  all_goals first | omega | grind
def C_Fg_6 : FuncId → Option Ct := addC 22 ct_eqTuning C_Fg_5
theorem C_Fg_6_ok : COk Tryd.prog C_Fg_6 := addC_ok C_Fg_5_ok sat_eqTuning
def ct_sizeFrac : Ct := ctOf [.v qFrac] (fun ((xs : List tFrac.den), _) => .p ((xs.length : Int) ≤ 9223372036854775807)) (fun ((xs : List tFrac.den), _) => .int .i64 (xs.length : Int))
set_option maxHeartbeats 1000000 in
theorem sat_sizeFrac : Sat Tryd.prog 117 ct_sizeFrac := by
  refine sat_typed (C := C_Fg_6) (L := noL) (wr := false) mixedOk Tryd.func117 C_Fg_6_ok (loops0 (by kernel_rfl)) (fun _ => by first | rfl | (simp [ownsOf, ownsOf.ownsL, enc, encV, encS])) fun x hp => ?_
  obtain ⟨(xs : List tFrac.den), _⟩ := x
  replace hp : (xs.length : Int) ≤ 9223372036854775807 := hp
  have htree : exFunc Tryd.prog C_Fg_6 false noL Tryd.f117 (encA [.v qFrac] (xs, ())) = .leaf [.int .i64 ((↑xs.length : Int))] := by kernel_rfl
  refine (congrArg (Tree.ok _) htree).mpr ?_
  clear htree
  simp [Tree.ok, tyd_inj, packAV, AV.same, AV.same.sameL, encV, encS, enc, inK, Nd.ok, List.headD_cons, List.cons_append, List.nil_append, List.append_nil, true_and, and_true, Bool.true_and, Bool.and_true]
def C_Fg_7 : FuncId → Option Ct := addC 117 ct_sizeFrac C_Fg_6
theorem C_Fg_7_ok : COk Tryd.prog C_Fg_7 := addC_ok C_Fg_6_ok sat_sizeFrac

def C_Fg : FuncId → Option Ct := C_Fg_7
theorem C_Fg_ok : COk Tryd.prog C_Fg := C_Fg_7_ok
end Go.Proofs.YtkeckmdmmbeaiaaDoor
