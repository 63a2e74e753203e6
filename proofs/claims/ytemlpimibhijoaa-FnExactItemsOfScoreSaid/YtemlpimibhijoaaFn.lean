/- Contracts: items taken over, compared, counted. Conditions: as each says. -/
import Derived.Test.YtemlpimibhijoaaFa
set_option linter.unusedSimpArgs false
set_option linter.unusedVariables false
namespace Go.Proofs.Ytemlpimibhijoaa
open Go.RowKit Sx
set_option maxRecDepth 100000
set_option maxHeartbeats 1000000
def ct_toPitch : Ct := ctOf [.s tPitch] (fun _ => .tt) (fun ((x : tPitch.den), _) => .agg (enc tPitch x))
set_option maxHeartbeats 1000000 in
theorem sat_toPitch : Sat Try.prog 106 ct_toPitch := by
  refine sat_typed (C := C_Fa) (L := noL) (wr := false) mixedOk Try.func106 C_Fa_ok (loops0 (by kernel_rfl)) (fun _ => by first | rfl | (simp [ownsOf, ownsOf.ownsL, enc, encV, encS])) fun x hp => ?_
  obtain ⟨(x : tPitch.den), _⟩ := x
  clear hp
  have htree : exFunc Try.prog C_Fa false noL Try.f106 (encA [.s tPitch] (x, ())) = .leaf [.agg [.int .i64 (x.fst), .int .i64 (x.snd.fst), .int .i64 (x.snd.snd)]] := by kernel_rfl
  refine (congrArg (Tree.ok _) htree).mpr ?_
  clear htree
  simp [Tree.ok, tyd_inj, packAV, AV.same, AV.same.sameL, encV, encS, enc, inK, Nd.ok, List.headD_cons, List.cons_append, List.nil_append, List.append_nil, true_and, and_true, Bool.true_and, Bool.and_true]
def C_Fn_1 : FuncId → Option Ct := addC 106 ct_toPitch C_Fa
theorem C_Fn_1_ok : COk Try.prog C_Fn_1 := addC_ok C_Fa_ok sat_toPitch
def ct_eqPitch : Ct := ctOf [.s tPitch, .s tPitch] (fun _ => .tt) (fun ((x : tPitch.den), (y : tPitch.den), _) => .bool (decide (x = y)))
set_option maxHeartbeats 1000000 in
theorem sat_eqPitch : Sat Try.prog 114 ct_eqPitch := by
  refine sat_typed (C := C_Fn_1) (L := noL) (wr := false) mixedOk Try.func114 C_Fn_1_ok (loops0 (by kernel_rfl)) (fun _ => by first | rfl | (simp [ownsOf, ownsOf.ownsL, enc, encV, encS])) fun x hp => ?_
  obtain ⟨(x : tPitch.den), (y : tPitch.den), _⟩ := x
  clear hp
  have htree : exFunc Try.prog C_Fn_1 false noL Try.f114 (encA [.s tPitch, .s tPitch] (x, y, ())) = .ite (x.fst != y.fst) (.leaf [.lit false]) (.ite (x.snd.fst != y.snd.fst) (.leaf [.lit false]) (.ite (x.snd.snd != y.snd.snd) (.leaf [.lit false]) (.leaf [.lit true]))) := by kernel_rfl
  refine (congrArg (Tree.ok _) htree).mpr ?_
  clear htree
  simp only [Tree.ok, tyd_inj, packAV, AV.same, AV.same.sameL, encV, encS, enc, inK, Nd.ok, List.headD_cons, List.cons_append, List.nil_append, List.append_nil, true_and, and_true, Bool.true_and, Bool.and_true, Prod.ext_iff, Bool.not_eq_true', Bool.not_eq_false', decide_eq_true_eq, decide_eq_false_iff_not]
  repeat' first | apply And.intro | intro _
  all_goals (first | (apply Eq.symm; simp only [decide_eq_true_eq, decide_eq_false_iff_not]) | simp only [eq_comm (a := false), eq_comm (a := true), decide_eq_true_eq, decide_eq_false_iff_not])
  all_goals grind
def C_Fn_2 : FuncId → Option Ct := addC 114 ct_eqPitch C_Fn_1
theorem C_Fn_2_ok : COk Try.prog C_Fn_2 := addC_ok C_Fn_1_ok sat_eqPitch
def ann_toPitchS_0 : LAnn := { sameS := [0], modS := [3, 4], sameH := [], modH := [], base := 900000, nilE := [], nilB := [], G := fun
  | ⟨[.view (.pair (.int .i64) (.pair (.int .i64) (.int .i64))) ys], [], [.own (.pair (.int .i64) (.pair (.int .i64) (.int .i64))) xs, .int .i64 i], []⟩ => some (.p ((0 ≤ i ∧ i ≤ (ys.length : Int)) ∧ xs.length = ys.length ∧ ys.length ≤ 16777216), .leaf (.exit 0) [.own tPitch (xs.take i.toNat ++ ys.drop i.toNat), .int .i64 (ys.length : Int)] [])
  | _ => none }
def ct_toPitchS : Ct := ctOf [.v qPitch] (fun ((ys : List tPitch.den), _) => .p (ys.length ≤ 16777216)) (fun ((ys : List tPitch.den), _) => .own tPitch ys)
set_option maxHeartbeats 1000000 in
theorem loop_toPitchS_0 : LoopSat Try.prog Try.f69.ntmps (loopAt Try.f69 0) ann_toPitchS_0 := by
  refine loopSat_of (C := C_Fn_2) (L := (addL (firstId (loopAt Try.f69 0)) ann_toPitchS_0 noL)) (wr := false) mixedOk C_Fn_2_ok (loopsIn0 (by kernel_rfl)) (fun d => match d.same, d.vals with | [.view _ ys], [_, .int _ i] => ((ys.length : Int) - i).toNat | _, _ => 0) fun d p t hG hp => ?_
  simp only [ann_toPitchS_0] at hG
  split at hG
  rotate_left
  · simp at hG
  rename_i ys xs i
  simp only [Option.some.injEq, Prod.mk.injEq] at hG
  obtain ⟨rfl, rfl⟩ := hG
  have htree : exRound Try.prog C_Fn_2 false (addL (firstId (loopAt Try.f69 0)) ann_toPitchS_0 noL) Try.f69.ntmps ann_toPitchS_0 (loopAt Try.f69 0) ⟨[.view tPitch ys], [], [.own tPitch xs, .int .i64 i], []⟩ = .ite (decide (i < (↑ys.length : Int))) (.need ((0 : Int) ≤ i ∧ i < (↑ys.length : Int)) (.need ((0 : Int) ≤ i ∧ i < (↑xs.length : Int)) (.need (i.toNat < xs.length) (.need (inK IntKind.i64 (i + (1 : Int))) (.leaf (.normal, ⟨[.view (I64.pair (I64.pair I64)) (ys)], [], [.own (I64.pair (I64.pair I64)) (xs.set i.toNat ((getT tPitch ys i).fst, (getT tPitch ys i).snd.fst, (getT tPitch ys i).snd.snd)), .int .i64 (i + (1 : Int))], []⟩)))))) (.leaf ((.exit 0), ⟨[.view (I64.pair (I64.pair I64)) (ys)], [], [.own (I64.pair (I64.pair I64)) (xs), .int .i64 (i)], []⟩)) := by kernel_rfl
  rw [htree]
  clear htree
  replace hp : (0 ≤ i ∧ i ≤ (ys.length : Int)) ∧ xs.length = ys.length ∧ ys.length ≤ 16777216 := hp
  simp only [Tree.ok, tyd_inj, packAV, AV.same, AV.same.sameL, encV, encS, enc, inK, Nd.ok, List.headD_cons, List.cons_append, List.nil_append, List.append_nil, true_and, and_true, Bool.true_and, Bool.and_true, loop_next, weakBs_nil, weakBs_cons, weakB_self, weakB_row, weakB_int, weakL_nil, weakL_unk, weakL_guess, isRow_own, isRow_unk, weakL_int, weakL_bool, weakL_str, weakL_own, weakL_view, weakL_nilS, noRow_int, noRow_bool, own_inj, LTree.val, cond_true, cond_false, Prod.mk.injEq, List.cons.injEq, AV.int.injEq, AV.bool.injEq, AV.str.injEq, AV.agg.injEq, ann_toPitchS_0, decide_eq_true_eq, decide_eq_false_iff_not]
  refine ⟨fun ha => ?_, fun ha => ?_⟩
  · have h1 := set_front xs ys i.toNat tPitch.zero (by omega) hp.2.1
    refine ⟨by omega, by omega, by omega, by omega, by omega, ⟨by omega, by rw [List.length_set]; exact hp.2.1, hp.2.2⟩, ?_⟩
    rw [show (i + 1).toNat = i.toNat + 1 by omega]
    exact h1
  · have h1 : i.toNat = ys.length := by omega
    rw [h1]
    exact ⟨by simp [List.take_of_length_le (show xs.length ≤ ys.length by omega)], by omega⟩
theorem loops_toPitchS : ∀ c, Try.f69.body = some c → LoopsOk Try.prog (addL (firstId (loopAt Try.f69 0)) ann_toPitchS_0 noL) Try.f69.ntmps c := loopsN fun i hi ann h => by
  have hn : loopN Try.f69 = 1 := by kernel_rfl
  rw [hn] at hi
  exact match i, hi, h with
    | 0, _, h => (Option.some.inj ((show (addL (firstId (loopAt Try.f69 0)) ann_toPitchS_0 noL) (firstId (loopAt Try.f69 0)) = some ann_toPitchS_0 from by kernel_rfl).symm.trans h)) ▸ loop_toPitchS_0
set_option maxHeartbeats 1000000 in
theorem sat_toPitchS : Sat Try.prog 69 ct_toPitchS := by
  refine sat_typed (C := C_Fn_2) (L := (addL (firstId (loopAt Try.f69 0)) ann_toPitchS_0 noL)) (wr := false) mixedOk Try.func69 C_Fn_2_ok (loops_toPitchS) (fun _ => by first | rfl | (simp [ownsOf, ownsOf.ownsL, enc, encV, encS])) fun x hp => ?_
  obtain ⟨(ys : List tPitch.den), _⟩ := x
  replace hp : ys.length ≤ 16777216 := hp
  have htree : exFunc Try.prog C_Fn_2 false (addL (firstId (loopAt Try.f69 0)) ann_toPitchS_0 noL) Try.f69 (encA [.v qPitch] (ys, ())) = .need ((0 : Int) ≤ (↑ys.length : Int) ∧ (↑ys.length : Int) ≤ (↑ys.length : Int) ∧ (↑ys.length : Int) ≤ (16777216 : Int)) (.need (((0 : Int) ≤ (0 : Int) ∧ (0 : Int) ≤ (↑ys.length : Int)) ∧ (List.replicate (↑ys.length : Int).toNat ((0 : Int), (0 : Int), (0 : Int))).length = ys.length ∧ ys.length ≤ (16777216 : Nat)) (.leaf [.own (I64.pair (I64.pair I64)) (List.take (Int.toNat (0 : Int)) (List.replicate (↑ys.length : Int).toNat ((0 : Int), (0 : Int), (0 : Int))) ++ List.drop (Int.toNat (0 : Int)) ys)])) := by kernel_rfl
  refine (congrArg (Tree.ok _) htree).mpr ?_
  clear htree
  simp [Tree.ok, tyd_inj, packAV, AV.same, AV.same.sameL, encV, encS, enc, inK, Nd.ok, List.headD_cons, List.cons_append, List.nil_append, List.append_nil, true_and, and_true, Bool.true_and, Bool.and_true]
  omega
def C_Fn_3 : FuncId → Option Ct := addC 69 ct_toPitchS C_Fn_2
theorem C_Fn_3_ok : COk Try.prog C_Fn_3 := addC_ok C_Fn_2_ok sat_toPitchS
def ct_toIv : Ct := ctOf [.s tIv] (fun _ => .tt) (fun ((x : tIv.den), _) => .agg (enc tIv x))
set_option maxHeartbeats 1000000 in
theorem sat_toIv : Sat Try.prog 71 ct_toIv := by
  refine sat_typed (C := C_Fn_3) (L := noL) (wr := false) mixedOk Try.func71 C_Fn_3_ok (loops0 (by kernel_rfl)) (fun _ => by first | rfl | (simp [ownsOf, ownsOf.ownsL, enc, encV, encS])) fun x hp => ?_
  obtain ⟨(x : tIv.den), _⟩ := x
  clear hp
  have htree : exFunc Try.prog C_Fn_3 false noL Try.f71 (encA [.s tIv] (x, ())) = .leaf [.agg [.int .i64 (x.fst), .int .i64 (x.snd)]] := by kernel_rfl
  refine (congrArg (Tree.ok _) htree).mpr ?_
  clear htree
  simp [Tree.ok, tyd_inj, packAV, AV.same, AV.same.sameL, encV, encS, enc, inK, Nd.ok, List.headD_cons, List.cons_append, List.nil_append, List.append_nil, true_and, and_true, Bool.true_and, Bool.and_true]
def C_Fn_4 : FuncId → Option Ct := addC 71 ct_toIv C_Fn_3
theorem C_Fn_4_ok : COk Try.prog C_Fn_4 := addC_ok C_Fn_3_ok sat_toIv
def ct_eqIv : Ct := ctOf [.s tIv, .s tIv] (fun _ => .tt) (fun ((x : tIv.den), (y : tIv.den), _) => .bool (decide (x = y)))
set_option maxHeartbeats 1000000 in
theorem sat_eqIv : Sat Try.prog 80 ct_eqIv := by
  refine sat_typed (C := C_Fn_4) (L := noL) (wr := false) mixedOk Try.func80 C_Fn_4_ok (loops0 (by kernel_rfl)) (fun _ => by first | rfl | (simp [ownsOf, ownsOf.ownsL, enc, encV, encS])) fun x hp => ?_
  obtain ⟨(x : tIv.den), (y : tIv.den), _⟩ := x
  clear hp
  have htree : exFunc Try.prog C_Fn_4 false noL Try.f80 (encA [.s tIv, .s tIv] (x, y, ())) = .ite (x.fst != y.fst) (.leaf [.lit false]) (.ite (x.snd != y.snd) (.leaf [.lit false]) (.leaf [.lit true])) := by kernel_rfl
  refine (congrArg (Tree.ok _) htree).mpr ?_
  clear htree
  simp only [Tree.ok, tyd_inj, packAV, AV.same, AV.same.sameL, encV, encS, enc, inK, Nd.ok, List.headD_cons, List.cons_append, List.nil_append, List.append_nil, true_and, and_true, Bool.true_and, Bool.and_true, Prod.ext_iff, Bool.not_eq_true', Bool.not_eq_false', decide_eq_true_eq, decide_eq_false_iff_not]
  repeat' first | apply And.intro | intro _
  all_goals (first | (apply Eq.symm; simp only [decide_eq_true_eq, decide_eq_false_iff_not]) | simp only [eq_comm (a := false), eq_comm (a := true), decide_eq_true_eq, decide_eq_false_iff_not])
  all_goals grind
def C_Fn_5 : FuncId → Option Ct := addC 80 ct_eqIv C_Fn_4
theorem C_Fn_5_ok : COk Try.prog C_Fn_5 := addC_ok C_Fn_4_ok sat_eqIv
def ct_szPitchS : Ct := ctOf [.v qPitch, .v (.int .i64)] (fun ((ys : List tPitch.den), (n : Int), _) => .p ((0 ≤ n ∧ n ≤ 1048576) ∧ (ys.length : Int) ≤ 9223372036854775807)) (fun ((ys : List tPitch.den), (n : Int), _) => .int .i64 (if n - (ys.length : Int) < 0 then -1 else n - (ys.length : Int)))
set_option maxHeartbeats 1000000 in
theorem sat_szPitchS : Sat Try.prog 63 ct_szPitchS := by
  refine sat_typed (C := C_Fn_5) (L := noL) (wr := false) mixedOk Try.func63 C_Fn_5_ok (loops0 (by kernel_rfl)) (fun _ => by first | rfl | (simp [ownsOf, ownsOf.ownsL, enc, encV, encS])) fun x hp => ?_
  obtain ⟨(ys : List tPitch.den), (n : Int), _⟩ := x
  replace hp : (0 ≤ n ∧ n ≤ 1048576) ∧ (ys.length : Int) ≤ 9223372036854775807 := hp
  have htree : exFunc Try.prog C_Fn_5 false noL Try.f63 (encA [.v qPitch, .v (.int .i64)] (ys, n, ())) = .need (inK IntKind.i64 (n - (↑ys.length : Int))) (.ite (decide (n - (↑ys.length : Int) < (0 : Int))) (.leaf [.int .i64 ((-1 : Int))]) (.leaf [.int .i64 (n - (↑ys.length : Int))])) := by kernel_rfl
  refine (congrArg (Tree.ok _) htree).mpr ?_
  clear htree
  simp only [Tree.ok, tyd_inj, packAV, AV.same, AV.same.sameL, encV, encS, enc, inK, Nd.ok, List.headD_cons, List.cons_append, List.nil_append, List.append_nil, true_and, and_true, Bool.true_and, Bool.and_true]
  grind
def C_Fn_6 : FuncId → Option Ct := addC 63 ct_szPitchS C_Fn_5
theorem C_Fn_6_ok : COk Try.prog C_Fn_6 := addC_ok C_Fn_5_ok sat_szPitchS
def ann_eqPitchS_0 : LAnn := { sameS := [0, 1], modS := [4, 5], sameH := [], modH := [], base := 900000, nilE := [], nilB := [], G := fun
  | ⟨[.view (.pair (.int .i64) (.pair (.int .i64) (.int .i64))) xs, .view (.pair (.int .i64) (.pair (.int .i64) (.int .i64))) ys], [], [.bool r, .int .i64 i], []⟩ => some (.p ((0 ≤ i ∧ i ≤ (xs.length : Int)) ∧ xs.length = ys.length ∧ (xs.length : Int) ≤ 9223372036854775807), .ite (decide (xs.drop i.toNat = ys.drop i.toNat)) (.leaf (.exit 0) [.bool r, .int .i64 (xs.length : Int)] []) (.leaf .ret [.bool false, .unk] []))
  | _ => none }
def ct_eqPitchS : Ct := ctOf [.v qPitch, .v qPitch] (fun ((xs : List tPitch.den), (ys : List tPitch.den), _) => .p ((xs.length : Int) ≤ 9223372036854775807)) (fun ((xs : List tPitch.den), (ys : List tPitch.den), _) => .bool (decide (xs = ys)))
set_option maxHeartbeats 1000000 in
theorem loop_eqPitchS_0 : LoopSat Try.prog Try.f78.ntmps (loopAt Try.f78 0) ann_eqPitchS_0 := by
  refine loopSat_of (C := C_Fn_6) (L := (addL (firstId (loopAt Try.f78 0)) ann_eqPitchS_0 noL)) (wr := false) mixedOk C_Fn_6_ok (loopsIn0 (by kernel_rfl)) (fun d => match d.same, d.vals with | [.view _ xs, _], [_, .int _ i] => ((xs.length : Int) - i).toNat | _, _ => 0) fun d p t hG hp => ?_
  simp only [ann_eqPitchS_0] at hG
  split at hG
  rotate_left
  · simp at hG
  rename_i xs ys r i
  simp only [Option.some.injEq, Prod.mk.injEq] at hG
  obtain ⟨rfl, rfl⟩ := hG
  have htree : exRound Try.prog C_Fn_6 false (addL (firstId (loopAt Try.f78 0)) ann_eqPitchS_0 noL) Try.f78.ntmps ann_eqPitchS_0 (loopAt Try.f78 0) ⟨[.view tPitch xs, .view tPitch ys], [], [.bool r, .int .i64 i], []⟩ = .ite (decide (i < (↑xs.length : Int))) (.need ((0 : Int) ≤ i ∧ i < (↑xs.length : Int)) (.need ((0 : Int) ≤ i ∧ i < (↑ys.length : Int)) (.ite (!decide (((getT tPitch xs i).fst, (getT tPitch xs i).snd.fst, (getT tPitch xs i).snd.snd) = ((getT tPitch ys i).fst, (getT tPitch ys i).snd.fst, (getT tPitch ys i).snd.snd))) (.leaf (.ret, ⟨[.view (I64.pair (I64.pair I64)) (xs), .view (I64.pair (I64.pair I64)) (ys)], [], [.bool (false), .int .i64 (i)], []⟩)) (.need (inK IntKind.i64 (i + (1 : Int))) (.leaf (.normal, ⟨[.view (I64.pair (I64.pair I64)) (xs), .view (I64.pair (I64.pair I64)) (ys)], [], [.bool (r), .int .i64 (i + (1 : Int))], []⟩)))))) (.leaf ((.exit 0), ⟨[.view (I64.pair (I64.pair I64)) (xs), .view (I64.pair (I64.pair I64)) (ys)], [], [.bool (r), .int .i64 (i)], []⟩)) := by kernel_rfl
  rw [htree]
  clear htree
  replace hp : (0 ≤ i ∧ i ≤ (xs.length : Int)) ∧ xs.length = ys.length ∧ (xs.length : Int) ≤ 9223372036854775807 := hp
  simp only [Tree.ok, tyd_inj, packAV, AV.same, AV.same.sameL, encV, encS, enc, inK, Nd.ok, List.headD_cons, List.cons_append, List.nil_append, List.append_nil, true_and, and_true, Bool.true_and, Bool.and_true, loop_next, weakBs_nil, weakBs_cons, weakB_self, weakB_row, weakB_int, weakL_nil, weakL_unk, weakL_guess, isRow_own, isRow_unk, weakL_int, weakL_bool, weakL_str, weakL_own, weakL_view, weakL_nilS, noRow_int, noRow_bool, own_inj, LTree.val, cond_true, cond_false, Prod.mk.injEq, List.cons.injEq, AV.int.injEq, AV.bool.injEq, AV.str.injEq, AV.agg.injEq, ann_eqPitchS_0, decide_eq_true_eq, decide_eq_false_iff_not, bne_iff_ne, ne_eq, bne_eq_false_iff_eq, getT]
  refine ⟨fun ha => ?_, fun ha => ?_⟩
  · have h1 := drop_eq_iff xs ys i.toNat tPitch.zero (by omega) (by omega)
    simp only [Prod.ext_iff] at h1 ⊢
    rw [show (i + 1).toNat = i.toNat + 1 by omega]
    repeat' first | apply And.intro | intro _
    all_goals first
      | omega
      | (rw [decide_eq_false (show ¬ (xs.drop i.toNat = ys.drop i.toNat) by grind)]; simp [Tree.ok, tyd_inj, packAV, AV.same, AV.same.sameL, encV, encS, enc, inK, Nd.ok, List.headD_cons, List.cons_append, List.nil_append, List.append_nil, true_and, and_true, Bool.true_and, Bool.and_true, loop_next, weakBs_nil, weakBs_cons, weakB_self, weakB_row, weakB_int, weakL_nil, weakL_unk, weakL_guess, isRow_own, isRow_unk, weakL_int, weakL_bool, weakL_str, weakL_own, weakL_view, weakL_nilS, noRow_int, noRow_bool, own_inj, LTree.val, cond_true, cond_false, Prod.mk.injEq, List.cons.injEq, AV.int.injEq, AV.bool.injEq, AV.str.injEq, AV.agg.injEq]; done)
      | rw [show decide (xs.drop i.toNat = ys.drop i.toNat) = decide (xs.drop (i.toNat + 1) = ys.drop (i.toNat + 1)) by grind]
  · have h1 : i.toNat = xs.length := by omega
    have h2 : xs.length = ys.length := by omega
    rw [h1, decide_eq_true (show xs.drop xs.length = ys.drop xs.length by rw [List.drop_length, h2, List.drop_length])]
    simp [Tree.ok, tyd_inj, packAV, AV.same, AV.same.sameL, encV, encS, enc, inK, Nd.ok, List.headD_cons, List.cons_append, List.nil_append, List.append_nil, true_and, and_true, Bool.true_and, Bool.and_true, loop_next, weakBs_nil, weakBs_cons, weakB_self, weakB_row, weakB_int, weakL_nil, weakL_unk, weakL_guess, isRow_own, isRow_unk, weakL_int, weakL_bool, weakL_str, weakL_own, weakL_view, weakL_nilS, noRow_int, noRow_bool, own_inj, LTree.val, cond_true, cond_false, Prod.mk.injEq, List.cons.injEq, AV.int.injEq, AV.bool.injEq, AV.str.injEq, AV.agg.injEq]
    omega
theorem loops_eqPitchS : ∀ c, Try.f78.body = some c → LoopsOk Try.prog (addL (firstId (loopAt Try.f78 0)) ann_eqPitchS_0 noL) Try.f78.ntmps c := loopsN fun i hi ann h => by
  have hn : loopN Try.f78 = 1 := by kernel_rfl
  rw [hn] at hi
  exact match i, hi, h with
    | 0, _, h => (Option.some.inj ((show (addL (firstId (loopAt Try.f78 0)) ann_eqPitchS_0 noL) (firstId (loopAt Try.f78 0)) = some ann_eqPitchS_0 from by kernel_rfl).symm.trans h)) ▸ loop_eqPitchS_0
set_option maxHeartbeats 1000000 in
theorem sat_eqPitchS : Sat Try.prog 78 ct_eqPitchS := by
  refine sat_typed (C := C_Fn_6) (L := (addL (firstId (loopAt Try.f78 0)) ann_eqPitchS_0 noL)) (wr := false) mixedOk Try.func78 C_Fn_6_ok (loops_eqPitchS) (fun _ => by first | rfl | (simp [ownsOf, ownsOf.ownsL, enc, encV, encS])) fun x hp => ?_
  obtain ⟨(xs : List tPitch.den), (ys : List tPitch.den), _⟩ := x
  replace hp : (xs.length : Int) ≤ 9223372036854775807 := hp
  have htree : exFunc Try.prog C_Fn_6 false (addL (firstId (loopAt Try.f78 0)) ann_eqPitchS_0 noL) Try.f78 (encA [.v qPitch, .v qPitch] (xs, ys, ())) = .ite ((↑xs.length : Int) != (↑ys.length : Int)) (.leaf [.lit false]) (.need (((0 : Int) ≤ (0 : Int) ∧ (0 : Int) ≤ (↑xs.length : Int)) ∧ xs.length = ys.length ∧ (↑xs.length : Int) ≤ (9223372036854775807 : Int)) (.ite (decide (List.drop (Int.toNat (0 : Int)) xs = List.drop (Int.toNat (0 : Int)) ys)) (.leaf [.lit true]) (.leaf [.bool (false)]))) := by kernel_rfl
  refine (congrArg (Tree.ok _) htree).mpr ?_
  clear htree
  simp only [Tree.ok, tyd_inj, packAV, AV.same, AV.same.sameL, encV, encS, enc, inK, Nd.ok, List.headD_cons, List.cons_append, List.nil_append, List.append_nil, true_and, and_true, Bool.true_and, Bool.and_true, Int.toNat_zero, List.drop_zero, decide_eq_true_eq, decide_eq_false_iff_not, bne_iff_ne, ne_eq, bne_eq_false_iff_eq]
  repeat' first | apply And.intro | intro _
  all_goals grind
def C_Fn_7 : FuncId → Option Ct := addC 78 ct_eqPitchS C_Fn_6
theorem C_Fn_7_ok : COk Try.prog C_Fn_7 := addC_ok C_Fn_6_ok sat_eqPitchS
def ann_slEqualPitch_0 : LAnn := { sameS := [0, 1, 12], modS := [4, 13], sameH := [], modH := [], base := 900000, nilE := [], nilB := [], G := fun
  | ⟨[.view (.pair (.int .i64) (.pair (.int .i64) (.int .i64))) xs, .view (.pair (.int .i64) (.pair (.int .i64) (.int .i64))) ys, .int .i64 n], [], [.bool r, .int .i64 i], []⟩ => some (.p ((0 ≤ i ∧ i ≤ n) ∧ n = (xs.length : Int) ∧ xs.length = ys.length ∧ n ≤ 9223372036854775807), .ite (decide (xs.drop i.toNat = ys.drop i.toNat)) (.leaf (.exit 0) [.bool r, .int .i64 (xs.length : Int)] []) (.leaf .ret [.bool false, .unk] []))
  | _ => none }
def ct_slEqualPitch : Ct := ctOf [.v qPitch, .v qPitch] (fun ((xs : List tPitch.den), (ys : List tPitch.den), _) => .p ((xs.length : Int) ≤ 9223372036854775807)) (fun ((xs : List tPitch.den), (ys : List tPitch.den), _) => .bool (decide (xs = ys)))
set_option maxHeartbeats 1000000 in
theorem loop_slEqualPitch_0 : LoopSat Try.prog Try.f127.ntmps (loopAt Try.f127 0) ann_slEqualPitch_0 := by
  refine loopSat_of (C := C_Fn_7) (L := (addL (firstId (loopAt Try.f127 0)) ann_slEqualPitch_0 noL)) (wr := false) mixedOk C_Fn_7_ok (loopsIn0 (by kernel_rfl)) (fun d => match d.same, d.vals with | [.view _ xs, _, _], [_, .int _ i] => ((xs.length : Int) - i).toNat | _, _ => 0) fun d p t hG hp => ?_
  simp only [ann_slEqualPitch_0] at hG
  split at hG
  rotate_left
  · simp at hG
  rename_i xs ys n r i
  simp only [Option.some.injEq, Prod.mk.injEq] at hG
  obtain ⟨rfl, rfl⟩ := hG
  have htree : exRound Try.prog C_Fn_7 false (addL (firstId (loopAt Try.f127 0)) ann_slEqualPitch_0 noL) Try.f127.ntmps ann_slEqualPitch_0 (loopAt Try.f127 0) ⟨[.view tPitch xs, .view tPitch ys, .int .i64 n], [], [.bool r, .int .i64 i], []⟩ = .ite (decide (i < n)) (.need ((0 : Int) ≤ i ∧ i < (↑xs.length : Int)) (.need ((0 : Int) ≤ i ∧ i < (↑ys.length : Int)) (.ite (!((getT tPitch xs i).fst == (getT tPitch ys i).fst && ((getT tPitch xs i).snd.fst == (getT tPitch ys i).snd.fst && (getT tPitch xs i).snd.snd == (getT tPitch ys i).snd.snd))) (.leaf (.ret, ⟨[.view (I64.pair (I64.pair I64)) (xs), .view (I64.pair (I64.pair I64)) (ys), .int .i64 (n)], [], [.bool (false), .int .i64 (i)], []⟩)) (.need (inK IntKind.i64 (i + (1 : Int))) (.leaf (.normal, ⟨[.view (I64.pair (I64.pair I64)) (xs), .view (I64.pair (I64.pair I64)) (ys), .int .i64 (n)], [], [.bool (r), .int .i64 (i + (1 : Int))], []⟩)))))) (.leaf ((.exit 0), ⟨[.view (I64.pair (I64.pair I64)) (xs), .view (I64.pair (I64.pair I64)) (ys), .int .i64 (n)], [], [.bool (r), .int .i64 (i)], []⟩)) := by kernel_rfl
  rw [htree]
  clear htree
  replace hp : (0 ≤ i ∧ i ≤ n) ∧ n = (xs.length : Int) ∧ xs.length = ys.length ∧ n ≤ 9223372036854775807 := hp
  simp only [Tree.ok, tyd_inj, packAV, AV.same, AV.same.sameL, encV, encS, enc, inK, Nd.ok, List.headD_cons, List.cons_append, List.nil_append, List.append_nil, true_and, and_true, Bool.true_and, Bool.and_true, loop_next, weakBs_nil, weakBs_cons, weakB_self, weakB_row, weakB_int, weakL_nil, weakL_unk, weakL_guess, isRow_own, isRow_unk, weakL_int, weakL_bool, weakL_str, weakL_own, weakL_view, weakL_nilS, noRow_int, noRow_bool, own_inj, LTree.val, cond_true, cond_false, Prod.mk.injEq, List.cons.injEq, AV.int.injEq, AV.bool.injEq, AV.str.injEq, AV.agg.injEq, ann_slEqualPitch_0, decide_eq_true_eq, decide_eq_false_iff_not, bne_iff_ne, ne_eq, bne_eq_false_iff_eq, getT]
  refine ⟨fun ha => ?_, fun ha => ?_⟩
  · have h1 := drop_eq_iff xs ys i.toNat tPitch.zero (by omega) (by omega)
    simp only [Prod.ext_iff] at h1 ⊢
    rw [show (i + 1).toNat = i.toNat + 1 by omega]
    repeat' first | apply And.intro | intro _
    all_goals first
      | omega
      | (rw [decide_eq_false (show ¬ (xs.drop i.toNat = ys.drop i.toNat) by grind)]; simp [Tree.ok, tyd_inj, packAV, AV.same, AV.same.sameL, encV, encS, enc, inK, Nd.ok, List.headD_cons, List.cons_append, List.nil_append, List.append_nil, true_and, and_true, Bool.true_and, Bool.and_true, loop_next, weakBs_nil, weakBs_cons, weakB_self, weakB_row, weakB_int, weakL_nil, weakL_unk, weakL_guess, isRow_own, isRow_unk, weakL_int, weakL_bool, weakL_str, weakL_own, weakL_view, weakL_nilS, noRow_int, noRow_bool, own_inj, LTree.val, cond_true, cond_false, Prod.mk.injEq, List.cons.injEq, AV.int.injEq, AV.bool.injEq, AV.str.injEq, AV.agg.injEq]; done)
      | rw [show decide (xs.drop i.toNat = ys.drop i.toNat) = decide (xs.drop (i.toNat + 1) = ys.drop (i.toNat + 1)) by grind]
  · have h1 : i.toNat = xs.length := by omega
    have h2 : xs.length = ys.length := by omega
    rw [h1, decide_eq_true (show xs.drop xs.length = ys.drop xs.length by rw [List.drop_length, h2, List.drop_length])]
    simp [Tree.ok, tyd_inj, packAV, AV.same, AV.same.sameL, encV, encS, enc, inK, Nd.ok, List.headD_cons, List.cons_append, List.nil_append, List.append_nil, true_and, and_true, Bool.true_and, Bool.and_true, loop_next, weakBs_nil, weakBs_cons, weakB_self, weakB_row, weakB_int, weakL_nil, weakL_unk, weakL_guess, isRow_own, isRow_unk, weakL_int, weakL_bool, weakL_str, weakL_own, weakL_view, weakL_nilS, noRow_int, noRow_bool, own_inj, LTree.val, cond_true, cond_false, Prod.mk.injEq, List.cons.injEq, AV.int.injEq, AV.bool.injEq, AV.str.injEq, AV.agg.injEq]
    omega
theorem loops_slEqualPitch : ∀ c, Try.f127.body = some c → LoopsOk Try.prog (addL (firstId (loopAt Try.f127 0)) ann_slEqualPitch_0 noL) Try.f127.ntmps c := loopsN fun i hi ann h => by
  have hn : loopN Try.f127 = 1 := by kernel_rfl
  rw [hn] at hi
  exact match i, hi, h with
    | 0, _, h => (Option.some.inj ((show (addL (firstId (loopAt Try.f127 0)) ann_slEqualPitch_0 noL) (firstId (loopAt Try.f127 0)) = some ann_slEqualPitch_0 from by kernel_rfl).symm.trans h)) ▸ loop_slEqualPitch_0
set_option maxHeartbeats 1000000 in
theorem sat_slEqualPitch : Sat Try.prog 127 ct_slEqualPitch := by
  refine sat_typed (C := C_Fn_7) (L := (addL (firstId (loopAt Try.f127 0)) ann_slEqualPitch_0 noL)) (wr := false) mixedOk Try.func127 C_Fn_7_ok (loops_slEqualPitch) (fun _ => by first | rfl | (simp [ownsOf, ownsOf.ownsL, enc, encV, encS])) fun x hp => ?_
  obtain ⟨(xs : List tPitch.den), (ys : List tPitch.den), _⟩ := x
  replace hp : (xs.length : Int) ≤ 9223372036854775807 := hp
  have htree : exFunc Try.prog C_Fn_7 false (addL (firstId (loopAt Try.f127 0)) ann_slEqualPitch_0 noL) Try.f127 (encA [.v qPitch, .v qPitch] (xs, ys, ())) = .ite ((↑xs.length : Int) != (↑ys.length : Int)) (.leaf [.lit false]) (.need (((0 : Int) ≤ (0 : Int) ∧ (0 : Int) ≤ (↑xs.length : Int)) ∧ (↑xs.length : Int) = (↑xs.length : Int) ∧ xs.length = ys.length ∧ (↑xs.length : Int) ≤ (9223372036854775807 : Int)) (.ite (decide (List.drop (Int.toNat (0 : Int)) xs = List.drop (Int.toNat (0 : Int)) ys)) (.leaf [.lit true]) (.leaf [.bool (false)]))) := by kernel_rfl
  refine (congrArg (Tree.ok _) htree).mpr ?_
  clear htree
  simp only [Tree.ok, tyd_inj, packAV, AV.same, AV.same.sameL, encV, encS, enc, inK, Nd.ok, List.headD_cons, List.cons_append, List.nil_append, List.append_nil, true_and, and_true, Bool.true_and, Bool.and_true, Int.toNat_zero, List.drop_zero, decide_eq_true_eq, decide_eq_false_iff_not, bne_iff_ne, ne_eq, bne_eq_false_iff_eq]
  repeat' first | apply And.intro | intro _
  all_goals grind
def C_Fn_8 : FuncId → Option Ct := addC 127 ct_slEqualPitch C_Fn_7
theorem C_Fn_8_ok : COk Try.prog C_Fn_8 := addC_ok C_Fn_7_ok sat_slEqualPitch
def ann_l19Pitches_0 : LAnn := { sameS := [0, 1], modS := [4, 5], sameH := [], modH := [], base := 900000, nilE := [], nilB := [], G := fun
  | ⟨[.view (.pair (.int .i64) (.pair (.int .i64) (.int .i64))) xs, .view (.pair (.int .i64) (.pair (.int .i64) (.int .i64))) ys], [], [.bool r, .int .i64 i], []⟩ => some (.p ((0 ≤ i ∧ i ≤ (xs.length : Int)) ∧ xs.length = ys.length ∧ (xs.length : Int) ≤ 9223372036854775807), .ite (decide (xs.drop i.toNat = ys.drop i.toNat)) (.leaf (.exit 0) [.bool r, .int .i64 (xs.length : Int)] []) (.leaf .ret [.bool false, .unk] []))
  | _ => none }
def ct_l19Pitches : Ct := ctOf [.v qPitch, .v qPitch] (fun ((xs : List tPitch.den), (ys : List tPitch.den), _) => .p ((xs.length : Int) ≤ 9223372036854775807)) (fun ((xs : List tPitch.den), (ys : List tPitch.den), _) => .bool (decide (xs = ys)))
set_option maxHeartbeats 1000000 in
theorem loop_l19Pitches_0 : LoopSat Try.prog Try.f119.ntmps (loopAt Try.f119 0) ann_l19Pitches_0 := by
  refine loopSat_of (C := C_Fn_8) (L := (addL (firstId (loopAt Try.f119 0)) ann_l19Pitches_0 noL)) (wr := false) mixedOk C_Fn_8_ok (loopsIn0 (by kernel_rfl)) (fun d => match d.same, d.vals with | [.view _ xs, _], [_, .int _ i] => ((xs.length : Int) - i).toNat | _, _ => 0) fun d p t hG hp => ?_
  simp only [ann_l19Pitches_0] at hG
  split at hG
  rotate_left
  · simp at hG
  rename_i xs ys r i
  simp only [Option.some.injEq, Prod.mk.injEq] at hG
  obtain ⟨rfl, rfl⟩ := hG
  have htree : exRound Try.prog C_Fn_8 false (addL (firstId (loopAt Try.f119 0)) ann_l19Pitches_0 noL) Try.f119.ntmps ann_l19Pitches_0 (loopAt Try.f119 0) ⟨[.view tPitch xs, .view tPitch ys], [], [.bool r, .int .i64 i], []⟩ = .ite (decide (i < (↑xs.length : Int))) (.need ((0 : Int) ≤ i ∧ i < (↑xs.length : Int)) (.need ((0 : Int) ≤ i ∧ i < (↑ys.length : Int)) (.ite (!((getT tPitch xs i).fst == (getT tPitch ys i).fst && ((getT tPitch xs i).snd.fst == (getT tPitch ys i).snd.fst && (getT tPitch xs i).snd.snd == (getT tPitch ys i).snd.snd))) (.leaf (.ret, ⟨[.view (I64.pair (I64.pair I64)) (xs), .view (I64.pair (I64.pair I64)) (ys)], [], [.bool (false), .int .i64 (i)], []⟩)) (.need (inK IntKind.i64 (i + (1 : Int))) (.leaf (.normal, ⟨[.view (I64.pair (I64.pair I64)) (xs), .view (I64.pair (I64.pair I64)) (ys)], [], [.bool (r), .int .i64 (i + (1 : Int))], []⟩)))))) (.leaf ((.exit 0), ⟨[.view (I64.pair (I64.pair I64)) (xs), .view (I64.pair (I64.pair I64)) (ys)], [], [.bool (r), .int .i64 (i)], []⟩)) := by kernel_rfl
  rw [htree]
  clear htree
  replace hp : (0 ≤ i ∧ i ≤ (xs.length : Int)) ∧ xs.length = ys.length ∧ (xs.length : Int) ≤ 9223372036854775807 := hp
  simp only [Tree.ok, tyd_inj, packAV, AV.same, AV.same.sameL, encV, encS, enc, inK, Nd.ok, List.headD_cons, List.cons_append, List.nil_append, List.append_nil, true_and, and_true, Bool.true_and, Bool.and_true, loop_next, weakBs_nil, weakBs_cons, weakB_self, weakB_row, weakB_int, weakL_nil, weakL_unk, weakL_guess, isRow_own, isRow_unk, weakL_int, weakL_bool, weakL_str, weakL_own, weakL_view, weakL_nilS, noRow_int, noRow_bool, own_inj, LTree.val, cond_true, cond_false, Prod.mk.injEq, List.cons.injEq, AV.int.injEq, AV.bool.injEq, AV.str.injEq, AV.agg.injEq, ann_l19Pitches_0, decide_eq_true_eq, decide_eq_false_iff_not, bne_iff_ne, ne_eq, bne_eq_false_iff_eq, getT]
  refine ⟨fun ha => ?_, fun ha => ?_⟩
  · have h1 := drop_eq_iff xs ys i.toNat tPitch.zero (by omega) (by omega)
    simp only [Prod.ext_iff] at h1 ⊢
    rw [show (i + 1).toNat = i.toNat + 1 by omega]
    repeat' first | apply And.intro | intro _
    all_goals first
      | omega
      | (rw [decide_eq_false (show ¬ (xs.drop i.toNat = ys.drop i.toNat) by grind)]; simp [Tree.ok, tyd_inj, packAV, AV.same, AV.same.sameL, encV, encS, enc, inK, Nd.ok, List.headD_cons, List.cons_append, List.nil_append, List.append_nil, true_and, and_true, Bool.true_and, Bool.and_true, loop_next, weakBs_nil, weakBs_cons, weakB_self, weakB_row, weakB_int, weakL_nil, weakL_unk, weakL_guess, isRow_own, isRow_unk, weakL_int, weakL_bool, weakL_str, weakL_own, weakL_view, weakL_nilS, noRow_int, noRow_bool, own_inj, LTree.val, cond_true, cond_false, Prod.mk.injEq, List.cons.injEq, AV.int.injEq, AV.bool.injEq, AV.str.injEq, AV.agg.injEq]; done)
      | rw [show decide (xs.drop i.toNat = ys.drop i.toNat) = decide (xs.drop (i.toNat + 1) = ys.drop (i.toNat + 1)) by grind]
  · have h1 : i.toNat = xs.length := by omega
    have h2 : xs.length = ys.length := by omega
    rw [h1, decide_eq_true (show xs.drop xs.length = ys.drop xs.length by rw [List.drop_length, h2, List.drop_length])]
    simp [Tree.ok, tyd_inj, packAV, AV.same, AV.same.sameL, encV, encS, enc, inK, Nd.ok, List.headD_cons, List.cons_append, List.nil_append, List.append_nil, true_and, and_true, Bool.true_and, Bool.and_true, loop_next, weakBs_nil, weakBs_cons, weakB_self, weakB_row, weakB_int, weakL_nil, weakL_unk, weakL_guess, isRow_own, isRow_unk, weakL_int, weakL_bool, weakL_str, weakL_own, weakL_view, weakL_nilS, noRow_int, noRow_bool, own_inj, LTree.val, cond_true, cond_false, Prod.mk.injEq, List.cons.injEq, AV.int.injEq, AV.bool.injEq, AV.str.injEq, AV.agg.injEq]
    omega
theorem loops_l19Pitches : ∀ c, Try.f119.body = some c → LoopsOk Try.prog (addL (firstId (loopAt Try.f119 0)) ann_l19Pitches_0 noL) Try.f119.ntmps c := loopsN fun i hi ann h => by
  have hn : loopN Try.f119 = 1 := by kernel_rfl
  rw [hn] at hi
  exact match i, hi, h with
    | 0, _, h => (Option.some.inj ((show (addL (firstId (loopAt Try.f119 0)) ann_l19Pitches_0 noL) (firstId (loopAt Try.f119 0)) = some ann_l19Pitches_0 from by kernel_rfl).symm.trans h)) ▸ loop_l19Pitches_0
set_option maxHeartbeats 1000000 in
theorem sat_l19Pitches : Sat Try.prog 119 ct_l19Pitches := by
  refine sat_typed (C := C_Fn_8) (L := (addL (firstId (loopAt Try.f119 0)) ann_l19Pitches_0 noL)) (wr := false) mixedOk Try.func119 C_Fn_8_ok (loops_l19Pitches) (fun _ => by first | rfl | (simp [ownsOf, ownsOf.ownsL, enc, encV, encS])) fun x hp => ?_
  obtain ⟨(xs : List tPitch.den), (ys : List tPitch.den), _⟩ := x
  replace hp : (xs.length : Int) ≤ 9223372036854775807 := hp
  have htree : exFunc Try.prog C_Fn_8 false (addL (firstId (loopAt Try.f119 0)) ann_l19Pitches_0 noL) Try.f119 (encA [.v qPitch, .v qPitch] (xs, ys, ())) = .ite ((↑xs.length : Int) != (↑ys.length : Int)) (.leaf [.lit false]) (.need (((0 : Int) ≤ (0 : Int) ∧ (0 : Int) ≤ (↑xs.length : Int)) ∧ xs.length = ys.length ∧ (↑xs.length : Int) ≤ (9223372036854775807 : Int)) (.ite (decide (List.drop (Int.toNat (0 : Int)) xs = List.drop (Int.toNat (0 : Int)) ys)) (.leaf [.lit true]) (.leaf [.bool (false)]))) := by kernel_rfl
  refine (congrArg (Tree.ok _) htree).mpr ?_
  clear htree
  simp only [Tree.ok, tyd_inj, packAV, AV.same, AV.same.sameL, encV, encS, enc, inK, Nd.ok, List.headD_cons, List.cons_append, List.nil_append, List.append_nil, true_and, and_true, Bool.true_and, Bool.and_true, Int.toNat_zero, List.drop_zero, decide_eq_true_eq, decide_eq_false_iff_not, bne_iff_ne, ne_eq, bne_eq_false_iff_eq]
  repeat' first | apply And.intro | intro _
  all_goals grind
def C_Fn_9 : FuncId → Option Ct := addC 119 ct_l19Pitches C_Fn_8
theorem C_Fn_9_ok : COk Try.prog C_Fn_9 := addC_ok C_Fn_8_ok sat_l19Pitches
def pLen (p : List tPitch.den) : Int := (p.length : Int)
theorem pLen_nn (p : List tPitch.den) : 0 ≤ pLen p := Int.natCast_nonneg _
def ct_toItem : Ct := ctOf [.s tItem] (fun ((x : tItem.den), _) => .p (pLen x.2.1 ≤ 16777216)) (fun ((x : tItem.den), _) => .agg (enc tItem x))
set_option maxHeartbeats 1000000 in
theorem sat_toItem : Sat Try.prog 31 ct_toItem := by
  refine sat_typedF (C := C_Fn_9) (L := noL) (wr := false) mixedOk Try.func31 C_Fn_9_ok (loops0 (by kernel_rfl)) (fun _ => by first | rfl | (simp [ownsOf, ownsOf.ownsL, enc, encV, encS])) fun x hp => ?_
  obtain ⟨(x : tItem.den), _⟩ := x
  replace hp : pLen x.2.1 ≤ 16777216 := hp
  have htree : exFunc Try.prog C_Fn_9 false noL Try.f31 (encA [.s tItem] (x, ())) true = .need (List.length x.snd.fst ≤ (16777216 : Nat)) (.leaf [.agg [.int .i64 (x.fst), .view (I64.pair (I64.pair I64)) (x.snd.fst), .int .i64 (x.snd.snd.fst.fst), .int .i64 (x.snd.snd.fst.snd), .int .i64 (x.snd.snd.snd.fst), .int .i64 (x.snd.snd.snd.snd.fst.fst), .int .i64 (x.snd.snd.snd.snd.fst.snd), .int .i64 (x.snd.snd.snd.snd.snd)]]) := by kernel_rfl
  refine (congrArg (Tree.ok _) htree).mpr ?_
  clear htree
  simp only [pLen] at hp
  simp [Tree.ok, tyd_inj, packAV, AV.same, AV.same.sameL, encV, encS, enc, inK, Nd.ok, List.headD_cons, List.cons_append, List.nil_append, List.append_nil, true_and, and_true, Bool.true_and, Bool.and_true]
  omega
def C_Fn_10 : FuncId → Option Ct := addC 31 ct_toItem C_Fn_9
theorem C_Fn_10_ok : COk Try.prog C_Fn_10 := addC_ok C_Fn_9_ok sat_toItem
def ct_szItem : Ct := ctOf [.s tItem, .v (.int .i64)] (fun ((x : tItem.den), (n : Int), _) => .p ((0 ≤ n ∧ n ≤ 1048576) ∧ pLen x.2.1 ≤ 9223372036854775807)) (fun ((x : tItem.den), (n : Int), _) => .int .i64 (if n - pLen x.2.1 < 0 then -1 else n - pLen x.2.1))
set_option maxHeartbeats 1000000 in
theorem sat_szItem : Sat Try.prog 25 ct_szItem := by
  refine sat_typed (C := C_Fn_10) (L := noL) (wr := false) mixedOk Try.func25 C_Fn_10_ok (loops0 (by kernel_rfl)) (fun _ => by first | rfl | (simp [ownsOf, ownsOf.ownsL, enc, encV, encS])) fun x hp => ?_
  obtain ⟨(x : tItem.den), (n : Int), _⟩ := x
  replace hp : (0 ≤ n ∧ n ≤ 1048576) ∧ pLen x.2.1 ≤ 9223372036854775807 := hp
  have htree : exFunc Try.prog C_Fn_10 false noL Try.f25 (encA [.s tItem, .v (.int .i64)] (x, n, ())) = .need (((0 : Int) ≤ n ∧ n ≤ (1048576 : Int)) ∧ (↑(List.length x.snd.fst) : Int) ≤ (9223372036854775807 : Int)) (.ite (decide ((if n - (↑(List.length x.snd.fst) : Int) < (0 : Int) then (-1 : Int) else n - (↑(List.length x.snd.fst) : Int)) < (0 : Int))) (.leaf [.int .i64 ((-1 : Int))]) (.leaf [.int .i64 (if n - (↑(List.length x.snd.fst) : Int) < (0 : Int) then (-1 : Int) else n - (↑(List.length x.snd.fst) : Int))])) := by kernel_rfl
  refine (congrArg (Tree.ok _) htree).mpr ?_
  clear htree
  simp only [pLen] at hp ⊢
  simp only [Tree.ok, tyd_inj, packAV, AV.same, AV.same.sameL, encV, encS, enc, inK, Nd.ok, List.headD_cons, List.cons_append, List.nil_append, List.append_nil, true_and, and_true, Bool.true_and, Bool.and_true]
  grind
def C_Fn_11 : FuncId → Option Ct := addC 25 ct_szItem C_Fn_10
theorem C_Fn_11_ok : COk Try.prog C_Fn_11 := addC_ok C_Fn_10_ok sat_szItem
def ct_eqItem : Ct := ctOf [.s tItem, .s tItem] (fun ((x : tItem.den), (y : tItem.den), _) => .p (pLen x.2.1 ≤ 9223372036854775807)) (fun ((x : tItem.den), (y : tItem.den), _) => .bool (decide (x = y)))
set_option maxHeartbeats 1000000 in
theorem sat_eqItem : Sat Try.prog 35 ct_eqItem := by
  refine sat_typed (C := C_Fn_11) (L := noL) (wr := false) mixedOk Try.func35 C_Fn_11_ok (loops0 (by kernel_rfl)) (fun _ => by first | rfl | (simp [ownsOf, ownsOf.ownsL, enc, encV, encS])) fun x hp => ?_
  obtain ⟨(x : tItem.den), (y : tItem.den), _⟩ := x
  replace hp : pLen x.2.1 ≤ 9223372036854775807 := hp
  have htree : exFunc Try.prog C_Fn_11 false noL Try.f35 (encA [.s tItem, .s tItem] (x, y, ())) = .ite (x.fst != y.fst) (.leaf [.lit false]) (.need ((↑(List.length x.snd.fst) : Int) ≤ (9223372036854775807 : Int)) (.ite (!decide (x.snd.fst = y.snd.fst)) (.leaf [.lit false]) (.ite (!decide (x.snd.snd.fst.fst = y.snd.snd.fst.fst ∧ x.snd.snd.fst.snd = y.snd.snd.fst.snd)) (.leaf [.lit false]) (.ite (x.snd.snd.snd.fst != y.snd.snd.snd.fst) (.leaf [.lit false]) (.ite (!decide ((x.snd.snd.snd.snd.fst.fst, x.snd.snd.snd.snd.fst.snd) = (y.snd.snd.snd.snd.fst.fst, y.snd.snd.snd.snd.fst.snd))) (.leaf [.lit false]) (.ite (x.snd.snd.snd.snd.snd != y.snd.snd.snd.snd.snd) (.leaf [.lit false]) (.leaf [.lit true]))))))) := by kernel_rfl
  refine (congrArg (Tree.ok _) htree).mpr ?_
  clear htree
  simp only [pLen] at hp
  simp only [Tree.ok, tyd_inj, packAV, AV.same, AV.same.sameL, encV, encS, enc, inK, Nd.ok, List.headD_cons, List.cons_append, List.nil_append, List.append_nil, true_and, and_true, Bool.true_and, Bool.and_true, Prod.ext_iff]
  repeat' first | apply And.intro | intro _
  all_goals grind
def C_Fn_12 : FuncId → Option Ct := addC 35 ct_eqItem C_Fn_11
theorem C_Fn_12_ok : COk Try.prog C_Fn_12 := addC_ok C_Fn_11_ok sat_eqItem
instance : DecidableEq tItem.den := @instDecidableEqProd Int _ inferInstance (@instDecidableEqProd (List (Int × Int × Int)) _ inferInstance (@instDecidableEqProd (Int × Int) _ inferInstance (@instDecidableEqProd Int _ inferInstance (@instDecidableEqProd (Int × Int) Int inferInstance inferInstance))))
theorem item_at {ys : List tItem.den} {N : Int} (hN : 0 ≤ N) (h : ∀ z ∈ ys, pLen z.2.1 ≤ N) (i : Nat) : pLen (ys.getD i tItem.zero).2.1 ≤ N := by
  rcases Nat.lt_or_ge i ys.length with hi | hi
  · rw [getD_lt _ _ _ hi]; exact h _ (List.getElem_mem hi)
  · rw [List.getD_eq_getElem?_getD, List.getElem?_eq_none hi]; exact hN
def szIt : List tItem.den → Int → Int
  | [], n => n
  | x :: xs, n => if n - pLen x.2.1 < 0 then -1 else szIt xs (n - pLen x.2.1)
theorem szIt_step (xs : List tItem.den) (i : Nat) (n : Int) (h : i < xs.length) : szIt (xs.drop i) n = if n - pLen (xs.getD i tItem.zero).2.1 < 0 then -1 else szIt (xs.drop (i + 1)) (n - pLen (xs.getD i tItem.zero).2.1) := by
  rw [List.drop_eq_getElem_cons h, getD_lt _ _ _ h]
  rfl
theorem szIt_bound : ∀ (xs : List tItem.den) (n : Int), 0 ≤ n → ¬ szIt xs n < 0 → szIt xs n ≤ n ∧ ∀ z ∈ xs, pLen z.2.1 ≤ n
  | [], n, h, _ => ⟨Int.le_refl _, by simp⟩
  | x :: xs, n, h, h1 => by
    simp only [szIt] at h1 ⊢
    split at h1
    · omega
    · rename_i h2
      rw [if_neg h2]
      obtain ⟨a, b⟩ := szIt_bound xs _ (by omega) h1
      have hx := pLen_nn x.2.1
      refine ⟨by omega, fun z hz => ?_⟩
      rcases List.mem_cons.1 hz with rfl | hz
      · omega
      · have := b z hz; omega
theorem szIt_low : ∀ (xs : List tItem.den) (n : Int), 0 ≤ n → -1 ≤ szIt xs n ∧ szIt xs n ≤ n
  | [], n, h => by simp [szIt]; omega
  | x :: xs, n, h => by
    simp only [szIt]
    split
    · omega
    · have := szIt_low xs (n - pLen x.2.1) (by omega); have := pLen_nn x.2.1; omega
def ann_toItemS_0 : LAnn := { sameS := [0], modS := [3, 4], sameH := [], modH := [], base := 900000, nilE := [], nilB := [], G := fun
  | ⟨[.view (.pair (.int .i64) (.pair (.seq (.pair (.int .i64) (.pair (.int .i64) (.int .i64)))) (.pair (.pair (.int .i64) (.int .i64)) (.pair (.int .i64) (.pair (.pair (.int .i64) (.int .i64)) (.int .i64)))))) ys], [], [.own (.pair (.int .i64) (.pair (.seq (.pair (.int .i64) (.pair (.int .i64) (.int .i64)))) (.pair (.pair (.int .i64) (.int .i64)) (.pair (.int .i64) (.pair (.pair (.int .i64) (.int .i64)) (.int .i64)))))) xs, .int .i64 i], []⟩ => some (.p (((0 ≤ i ∧ i ≤ (ys.length : Int)) ∧ xs.length = ys.length ∧ ys.length ≤ 16777216) ∧ ∀ z ∈ ys, pLen z.2.1 ≤ 16777216), .leaf (.exit 0) [.own tItem (xs.take i.toNat ++ ys.drop i.toNat), .int .i64 (ys.length : Int)] [])
  | _ => none }
def ct_toItemS : Ct := ctOf [.v qItem] (fun ((ys : List tItem.den), _) => .p (ys.length ≤ 16777216 ∧ ∀ z ∈ ys, pLen z.2.1 ≤ 16777216)) (fun ((ys : List tItem.den), _) => .own tItem ys)
set_option maxHeartbeats 1000000 in
theorem loop_toItemS_0 : LoopSat Try.prog Try.f9.ntmps (loopAt Try.f9 0) ann_toItemS_0 := by
  refine loopSat_of (C := C_Fn_12) (L := (addL (firstId (loopAt Try.f9 0)) ann_toItemS_0 noL)) (wr := false) mixedOk C_Fn_12_ok (loopsIn0 (by kernel_rfl)) (fun d => match d.same, d.vals with | [.view _ ys], [_, .int _ i] => ((ys.length : Int) - i).toNat | _, _ => 0) fun d p t hG hp => ?_
  simp only [ann_toItemS_0] at hG
  split at hG
  rotate_left
  · simp at hG
  rename_i ys xs i
  simp only [Option.some.injEq, Prod.mk.injEq] at hG
  obtain ⟨rfl, rfl⟩ := hG
  have htree : exRound Try.prog C_Fn_12 false (addL (firstId (loopAt Try.f9 0)) ann_toItemS_0 noL) Try.f9.ntmps ann_toItemS_0 (loopAt Try.f9 0) ⟨[.view tItem ys], [], [.own tItem xs, .int .i64 i], []⟩ = .ite (decide (i < (↑ys.length : Int))) (.need ((0 : Int) ≤ i ∧ i < (↑ys.length : Int)) (.need (pLen (getT tItem ys i).snd.fst ≤ (16777216 : Int)) (.need ((0 : Int) ≤ i ∧ i < (↑xs.length : Int)) (.need (i.toNat < xs.length) (.need (inK IntKind.i64 (i + (1 : Int))) (.leaf (.normal, ⟨[.view (I64.pair (tPitch.seq.pair (tFrac.pair (I64.pair (tIv.pair I64))))) (ys)], [], [.own (I64.pair (tPitch.seq.pair (tFrac.pair (I64.pair (tIv.pair I64))))) (xs.set i.toNat ((getT tItem ys i).fst, (getT tItem ys i).snd.fst, ((getT tItem ys i).snd.snd.fst.fst, (getT tItem ys i).snd.snd.fst.snd), (getT tItem ys i).snd.snd.snd.fst, ((getT tItem ys i).snd.snd.snd.snd.fst.fst, (getT tItem ys i).snd.snd.snd.snd.fst.snd), (getT tItem ys i).snd.snd.snd.snd.snd)), .int .i64 (i + (1 : Int))], []⟩))))))) (.leaf ((.exit 0), ⟨[.view (I64.pair (tPitch.seq.pair (tFrac.pair (I64.pair (tIv.pair I64))))) (ys)], [], [.own (I64.pair (tPitch.seq.pair (tFrac.pair (I64.pair (tIv.pair I64))))) (xs), .int .i64 (i)], []⟩)) := by kernel_rfl
  rw [htree]
  clear htree
  replace hp : ((0 ≤ i ∧ i ≤ (ys.length : Int)) ∧ xs.length = ys.length ∧ ys.length ≤ 16777216) ∧ ∀ z ∈ ys, pLen z.2.1 ≤ 16777216 := hp
  obtain ⟨hp, hq⟩ := hp
  have hz := item_at (by omega) hq i.toNat
  simp only [Tree.ok, tyd_inj, packAV, AV.same, AV.same.sameL, encV, encS, enc, inK, Nd.ok, List.headD_cons, List.cons_append, List.nil_append, List.append_nil, true_and, and_true, Bool.true_and, Bool.and_true, loop_next, weakBs_nil, weakBs_cons, weakB_self, weakB_row, weakB_int, weakL_nil, weakL_unk, weakL_guess, isRow_own, isRow_unk, weakL_int, weakL_bool, weakL_str, weakL_own, weakL_view, weakL_nilS, noRow_int, noRow_bool, own_inj, LTree.val, cond_true, cond_false, Prod.mk.injEq, List.cons.injEq, AV.int.injEq, AV.bool.injEq, AV.str.injEq, AV.agg.injEq, ann_toItemS_0, decide_eq_true_eq, decide_eq_false_iff_not]
  refine ⟨fun ha => ?_, fun ha => ?_⟩
  · have h1 := set_front xs ys i.toNat tItem.zero (by omega) hp.2.1
    repeat' first | apply And.intro | intro _
    all_goals first | omega | exact hz | exact hq _ ‹_› | (rw [List.length_set]; exact hp.2.1) | skip
    rw [show (i + 1).toNat = i.toNat + 1 by omega]
    exact h1
  · have h1 : i.toNat = ys.length := by omega
    rw [h1]
    exact ⟨by simp [List.take_of_length_le (show xs.length ≤ ys.length by omega)], by omega⟩
theorem loops_toItemS : ∀ c, Try.f9.body = some c → LoopsOk Try.prog (addL (firstId (loopAt Try.f9 0)) ann_toItemS_0 noL) Try.f9.ntmps c := loopsN fun i hi ann h => by
  have hn : loopN Try.f9 = 1 := by kernel_rfl
  rw [hn] at hi
  exact match i, hi, h with
    | 0, _, h => (Option.some.inj ((show (addL (firstId (loopAt Try.f9 0)) ann_toItemS_0 noL) (firstId (loopAt Try.f9 0)) = some ann_toItemS_0 from by kernel_rfl).symm.trans h)) ▸ loop_toItemS_0
set_option maxHeartbeats 1000000 in
theorem sat_toItemS : Sat Try.prog 9 ct_toItemS := by
  refine sat_typed (C := C_Fn_12) (L := (addL (firstId (loopAt Try.f9 0)) ann_toItemS_0 noL)) (wr := false) mixedOk Try.func9 C_Fn_12_ok (loops_toItemS) (fun _ => by first | rfl | (simp [ownsOf, ownsOf.ownsL, enc, encV, encS])) fun x hp => ?_
  obtain ⟨(ys : List tItem.den), _⟩ := x
  replace hp : ys.length ≤ 16777216 ∧ ∀ z ∈ ys, pLen z.2.1 ≤ 16777216 := hp
  have htree : exFunc Try.prog C_Fn_12 false (addL (firstId (loopAt Try.f9 0)) ann_toItemS_0 noL) Try.f9 (encA [.v qItem] (ys, ())) = .need ((0 : Int) ≤ (↑ys.length : Int) ∧ (↑ys.length : Int) ≤ (↑ys.length : Int) ∧ (↑ys.length : Int) ≤ (16777216 : Int)) (.need ((((0 : Int) ≤ (0 : Int) ∧ (0 : Int) ≤ (↑ys.length : Int)) ∧ (List.replicate (↑ys.length : Int).toNat ((0 : Int), ([] : List tPitch.den), ((0 : Int), (0 : Int)), (0 : Int), ((0 : Int), (0 : Int)), (0 : Int))).length = ys.length ∧ ys.length ≤ (16777216 : Nat)) ∧ ∀ (z : ((Ty.int IntKind.i64).pair (((Ty.int IntKind.i64).pair ((Ty.int IntKind.i64).pair (Ty.int IntKind.i64))).seq.pair (((Ty.int IntKind.i64).pair (Ty.int IntKind.i64)).pair ((Ty.int IntKind.i64).pair (((Ty.int IntKind.i64).pair (Ty.int IntKind.i64)).pair (Ty.int IntKind.i64)))))).den), z ∈ ys → pLen z.snd.fst ≤ (16777216 : Int)) (.leaf [.own (I64.pair (tPitch.seq.pair (tFrac.pair (I64.pair (tIv.pair I64))))) (List.take (Int.toNat (0 : Int)) (List.replicate (↑ys.length : Int).toNat ((0 : Int), ([] : List tPitch.den), ((0 : Int), (0 : Int)), (0 : Int), ((0 : Int), (0 : Int)), (0 : Int))) ++ List.drop (Int.toNat (0 : Int)) ys)])) := by kernel_rfl
  refine (congrArg (Tree.ok _) htree).mpr ?_
  clear htree
  simp [Tree.ok, tyd_inj, packAV, AV.same, AV.same.sameL, encV, encS, enc, inK, Nd.ok, List.headD_cons, List.cons_append, List.nil_append, List.append_nil, true_and, and_true, Bool.true_and, Bool.and_true]
  repeat' first | apply And.intro | intro _
  all_goals first | omega | exact hp.2 _ ‹_› | grind
def C_Fn_13 : FuncId → Option Ct := addC 9 ct_toItemS C_Fn_12
theorem C_Fn_13_ok : COk Try.prog C_Fn_13 := addC_ok C_Fn_12_ok sat_toItemS
def ann_szItemS_0 : LAnn := { sameS := [0], modS := [1, 4, 5], sameH := [], modH := [], base := 900000, nilE := [], nilB := [], G := fun
  | ⟨[.view (.pair (.int .i64) (.pair (.seq (.pair (.int .i64) (.pair (.int .i64) (.int .i64)))) (.pair (.pair (.int .i64) (.int .i64)) (.pair (.int .i64) (.pair (.pair (.int .i64) (.int .i64)) (.int .i64)))))) ys], [], [.int .i64 n, .int .i64 r, .int .i64 i], []⟩ => some (.p (((0 ≤ i ∧ i ≤ (ys.length : Int)) ∧ (0 ≤ n ∧ n ≤ 1048576) ∧ (ys.length : Int) ≤ 9223372036854775807) ∧ ∀ z ∈ ys, pLen z.2.1 ≤ 9223372036854775807), .ite (decide (szIt (ys.drop i.toNat) n < 0)) (.leaf .ret [.unk, .int .i64 (-1), .unk] []) (.leaf (.exit 0) [.int .i64 (szIt (ys.drop i.toNat) n), .int .i64 r, .int .i64 (ys.length : Int)] []))
  | _ => none }
def ct_szItemS : Ct := ctOf [.v qItem, .v (.int .i64)] (fun ((ys : List tItem.den), (n : Int), _) => .p (((0 ≤ n ∧ n ≤ 1048576) ∧ (ys.length : Int) ≤ 9223372036854775807) ∧ ∀ z ∈ ys, pLen z.2.1 ≤ 9223372036854775807)) (fun ((ys : List tItem.den), (n : Int), _) => .int .i64 (if n - (ys.length : Int) < 0 then -1 else szIt ys (n - (ys.length : Int))))
set_option maxHeartbeats 1000000 in
theorem loop_szItemS_0 : LoopSat Try.prog Try.f7.ntmps (loopAt Try.f7 0) ann_szItemS_0 := by
  refine loopSat_of (C := C_Fn_13) (L := (addL (firstId (loopAt Try.f7 0)) ann_szItemS_0 noL)) (wr := false) mixedOk C_Fn_13_ok (loopsIn0 (by kernel_rfl)) (fun d => match d.same, d.vals with | [.view _ ys], [_, _, .int _ i] => ((ys.length : Int) - i).toNat | _, _ => 0) fun d p t hG hp => ?_
  simp only [ann_szItemS_0] at hG
  split at hG
  rotate_left
  · simp at hG
  rename_i ys n r i
  simp only [Option.some.injEq, Prod.mk.injEq] at hG
  obtain ⟨rfl, rfl⟩ := hG
  have htree : exRound Try.prog C_Fn_13 false (addL (firstId (loopAt Try.f7 0)) ann_szItemS_0 noL) Try.f7.ntmps ann_szItemS_0 (loopAt Try.f7 0) ⟨[.view tItem ys], [], [.int .i64 n, .int .i64 r, .int .i64 i], []⟩ = .ite (decide (i < (↑ys.length : Int))) (.need ((0 : Int) ≤ i ∧ i < (↑ys.length : Int)) (.need (((0 : Int) ≤ n ∧ n ≤ (1048576 : Int)) ∧ pLen (getT tItem ys i).snd.fst ≤ (9223372036854775807 : Int)) (.ite (decide ((if n - pLen (getT tItem ys i).snd.fst < (0 : Int) then (-1 : Int) else n - pLen (getT tItem ys i).snd.fst) < (0 : Int))) (.leaf (.ret, ⟨[.view (I64.pair (tPitch.seq.pair (tFrac.pair (I64.pair (tIv.pair I64))))) (ys)], [], [.int .i64 (if n - pLen (getT tItem ys i).snd.fst < (0 : Int) then (-1 : Int) else n - pLen (getT tItem ys i).snd.fst), .int .i64 ((-1 : Int)), .int .i64 (i)], []⟩)) (.need (inK IntKind.i64 (i + (1 : Int))) (.leaf (.normal, ⟨[.view (I64.pair (tPitch.seq.pair (tFrac.pair (I64.pair (tIv.pair I64))))) (ys)], [], [.int .i64 (if n - pLen (getT tItem ys i).snd.fst < (0 : Int) then (-1 : Int) else n - pLen (getT tItem ys i).snd.fst), .int .i64 (r), .int .i64 (i + (1 : Int))], []⟩)))))) (.leaf ((.exit 0), ⟨[.view (I64.pair (tPitch.seq.pair (tFrac.pair (I64.pair (tIv.pair I64))))) (ys)], [], [.int .i64 (n), .int .i64 (r), .int .i64 (i)], []⟩)) := by kernel_rfl
  rw [htree]
  clear htree
  replace hp : ((0 ≤ i ∧ i ≤ (ys.length : Int)) ∧ (0 ≤ n ∧ n ≤ 1048576) ∧ (ys.length : Int) ≤ 9223372036854775807) ∧ ∀ z ∈ ys, pLen z.2.1 ≤ 9223372036854775807 := hp
  obtain ⟨hp, hq⟩ := hp
  have hz := item_at (by omega) hq i.toNat
  simp only [Tree.ok, tyd_inj, packAV, AV.same, AV.same.sameL, encV, encS, enc, inK, Nd.ok, List.headD_cons, List.cons_append, List.nil_append, List.append_nil, true_and, and_true, Bool.true_and, Bool.and_true, loop_next, weakBs_nil, weakBs_cons, weakB_self, weakB_row, weakB_int, weakL_nil, weakL_unk, weakL_guess, isRow_own, isRow_unk, weakL_int, weakL_bool, weakL_str, weakL_own, weakL_view, weakL_nilS, noRow_int, noRow_bool, own_inj, LTree.val, cond_true, cond_false, Prod.mk.injEq, List.cons.injEq, AV.int.injEq, AV.bool.injEq, AV.str.injEq, AV.agg.injEq, ann_szItemS_0, decide_eq_true_eq, decide_eq_false_iff_not, getT]
  refine ⟨fun ha => ?_, fun ha => ?_⟩
  · rw [szIt_step ys i.toNat n (by omega), show (i + 1).toNat = i.toNat + 1 by omega]
    have h3 := szIt_low (ys.drop (i.toNat + 1))
    have h4 := pLen_nn (ys.getD i.toNat tItem.zero).2.1
    obtain ⟨e, he⟩ : ∃ e : tItem.den, ys.getD i.toNat tItem.zero = e := ⟨_, rfl⟩
    simp only [he] at hz h4 ⊢
    clear he
    obtain ⟨a1, p, ⟨b1, b2⟩, a2, ⟨c1, c2⟩, a3⟩ := e
    dsimp only at hz h4 ⊢
    by_cases hc : n - pLen p < 0
    · simp only [if_pos hc]
      repeat' first | apply And.intro | intro _
      all_goals first | omega | exact hz | exact hq _ ‹_› | trivial | (simp [Tree.ok, tyd_inj, packAV, AV.same, AV.same.sameL, encV, encS, enc, inK, Nd.ok, List.headD_cons, List.cons_append, List.nil_append, List.append_nil, true_and, and_true, Bool.true_and, Bool.and_true, loop_next, weakBs_nil, weakBs_cons, weakB_self, weakB_row, weakB_int, weakL_nil, weakL_unk, weakL_guess, isRow_own, isRow_unk, weakL_int, weakL_bool, weakL_str, weakL_own, weakL_view, weakL_nilS, noRow_int, noRow_bool, own_inj, LTree.val, cond_true, cond_false, Prod.mk.injEq, List.cons.injEq, AV.int.injEq, AV.bool.injEq, AV.str.injEq, AV.agg.injEq]; done) | (simp [Tree.ok, tyd_inj, packAV, AV.same, AV.same.sameL, encV, encS, enc, inK, Nd.ok, List.headD_cons, List.cons_append, List.nil_append, List.append_nil, true_and, and_true, Bool.true_and, Bool.and_true, loop_next, weakBs_nil, weakBs_cons, weakB_self, weakB_row, weakB_int, weakL_nil, weakL_unk, weakL_guess, isRow_own, isRow_unk, weakL_int, weakL_bool, weakL_str, weakL_own, weakL_view, weakL_nilS, noRow_int, noRow_bool, own_inj, LTree.val, cond_true, cond_false, Prod.mk.injEq, List.cons.injEq, AV.int.injEq, AV.bool.injEq, AV.str.injEq, AV.agg.injEq]; omega) | (simp_all; done)
    · simp only [if_neg hc]
      repeat' first | apply And.intro | intro _
      all_goals first | omega | exact hz | exact hq _ ‹_› | trivial | (simp [Tree.ok, tyd_inj, packAV, AV.same, AV.same.sameL, encV, encS, enc, inK, Nd.ok, List.headD_cons, List.cons_append, List.nil_append, List.append_nil, true_and, and_true, Bool.true_and, Bool.and_true, loop_next, weakBs_nil, weakBs_cons, weakB_self, weakB_row, weakB_int, weakL_nil, weakL_unk, weakL_guess, isRow_own, isRow_unk, weakL_int, weakL_bool, weakL_str, weakL_own, weakL_view, weakL_nilS, noRow_int, noRow_bool, own_inj, LTree.val, cond_true, cond_false, Prod.mk.injEq, List.cons.injEq, AV.int.injEq, AV.bool.injEq, AV.str.injEq, AV.agg.injEq]; done) | (simp [Tree.ok, tyd_inj, packAV, AV.same, AV.same.sameL, encV, encS, enc, inK, Nd.ok, List.headD_cons, List.cons_append, List.nil_append, List.append_nil, true_and, and_true, Bool.true_and, Bool.and_true, loop_next, weakBs_nil, weakBs_cons, weakB_self, weakB_row, weakB_int, weakL_nil, weakL_unk, weakL_guess, isRow_own, isRow_unk, weakL_int, weakL_bool, weakL_str, weakL_own, weakL_view, weakL_nilS, noRow_int, noRow_bool, own_inj, LTree.val, cond_true, cond_false, Prod.mk.injEq, List.cons.injEq, AV.int.injEq, AV.bool.injEq, AV.str.injEq, AV.agg.injEq]; omega) | (simp_all; done) | (simp_all; omega)
  · have h1 : i.toNat = ys.length := by omega
    rw [h1, List.drop_length]
    rw [decide_eq_false (show ¬ szIt [] n < 0 by simp only [szIt]; omega)]
    simp [Tree.ok, tyd_inj, packAV, AV.same, AV.same.sameL, encV, encS, enc, inK, Nd.ok, List.headD_cons, List.cons_append, List.nil_append, List.append_nil, true_and, and_true, Bool.true_and, Bool.and_true, loop_next, weakBs_nil, weakBs_cons, weakB_self, weakB_row, weakB_int, weakL_nil, weakL_unk, weakL_guess, isRow_own, isRow_unk, weakL_int, weakL_bool, weakL_str, weakL_own, weakL_view, weakL_nilS, noRow_int, noRow_bool, own_inj, LTree.val, cond_true, cond_false, Prod.mk.injEq, List.cons.injEq, AV.int.injEq, AV.bool.injEq, AV.str.injEq, AV.agg.injEq, szIt]
    omega
theorem loops_szItemS : ∀ c, Try.f7.body = some c → LoopsOk Try.prog (addL (firstId (loopAt Try.f7 0)) ann_szItemS_0 noL) Try.f7.ntmps c := loopsN fun i hi ann h => by
  have hn : loopN Try.f7 = 1 := by kernel_rfl
  rw [hn] at hi
  exact match i, hi, h with
    | 0, _, h => (Option.some.inj ((show (addL (firstId (loopAt Try.f7 0)) ann_szItemS_0 noL) (firstId (loopAt Try.f7 0)) = some ann_szItemS_0 from by kernel_rfl).symm.trans h)) ▸ loop_szItemS_0
set_option maxHeartbeats 1000000 in
theorem sat_szItemS : Sat Try.prog 7 ct_szItemS := by
  refine sat_typed (C := C_Fn_13) (L := (addL (firstId (loopAt Try.f7 0)) ann_szItemS_0 noL)) (wr := false) mixedOk Try.func7 C_Fn_13_ok (loops_szItemS) (fun _ => by first | rfl | (simp [ownsOf, ownsOf.ownsL, enc, encV, encS])) fun x hp => ?_
  obtain ⟨(ys : List tItem.den), (n : Int), _⟩ := x
  replace hp : ((0 ≤ n ∧ n ≤ 1048576) ∧ (ys.length : Int) ≤ 9223372036854775807) ∧ ∀ z ∈ ys, pLen z.2.1 ≤ 9223372036854775807 := hp
  have htree : exFunc Try.prog C_Fn_13 false (addL (firstId (loopAt Try.f7 0)) ann_szItemS_0 noL) Try.f7 (encA [.v qItem, .v (.int .i64)] (ys, n, ())) = .need (inK IntKind.i64 (n - (↑ys.length : Int))) (.ite (decide (n - (↑ys.length : Int) < (0 : Int))) (.leaf [.int .i64 ((-1 : Int))]) (.need ((((0 : Int) ≤ (0 : Int) ∧ (0 : Int) ≤ (↑ys.length : Int)) ∧ ((0 : Int) ≤ n - (↑ys.length : Int) ∧ n - (↑ys.length : Int) ≤ (1048576 : Int)) ∧ (↑ys.length : Int) ≤ (9223372036854775807 : Int)) ∧ ∀ (z : ((Ty.int IntKind.i64).pair (((Ty.int IntKind.i64).pair ((Ty.int IntKind.i64).pair (Ty.int IntKind.i64))).seq.pair (((Ty.int IntKind.i64).pair (Ty.int IntKind.i64)).pair ((Ty.int IntKind.i64).pair (((Ty.int IntKind.i64).pair (Ty.int IntKind.i64)).pair (Ty.int IntKind.i64)))))).den), z ∈ ys → pLen z.snd.fst ≤ (9223372036854775807 : Int)) (.ite (decide (szIt (List.drop (Int.toNat (0 : Int)) ys) (n - (↑ys.length : Int)) < (0 : Int))) (.leaf [.int .i64 ((-1 : Int))]) (.leaf [.int .i64 (szIt (List.drop (Int.toNat (0 : Int)) ys) (n - (↑ys.length : Int)))])))) := by kernel_rfl
  refine (congrArg (Tree.ok _) htree).mpr ?_
  clear htree
  simp only [Tree.ok, tyd_inj, packAV, AV.same, AV.same.sameL, encV, encS, enc, inK, Nd.ok, List.headD_cons, List.cons_append, List.nil_append, List.append_nil, true_and, and_true, Bool.true_and, Bool.and_true, Int.toNat_zero, List.drop_zero]
  by_cases hc : n - (ys.length : Int) < 0
  · simp only [if_pos hc]
    repeat' first | apply And.intro | intro _
    all_goals first | omega | exact hp.2 _ ‹_› | trivial | grind
  · simp only [if_neg hc]
    have h3 := szIt_low ys (n - (ys.length : Int)) (by omega)
    repeat' first | apply And.intro | intro _
    all_goals first | omega | exact hp.2 _ ‹_› | trivial | grind
def C_Fn_14 : FuncId → Option Ct := addC 7 ct_szItemS C_Fn_13
theorem C_Fn_14_ok : COk Try.prog C_Fn_14 := addC_ok C_Fn_13_ok sat_szItemS
def ann_eqItemS_0 : LAnn := { sameS := [0, 1], modS := [4, 5], sameH := [], modH := [], base := 900000, nilE := [], nilB := [], G := fun
  | ⟨[.view (.pair (.int .i64) (.pair (.seq (.pair (.int .i64) (.pair (.int .i64) (.int .i64)))) (.pair (.pair (.int .i64) (.int .i64)) (.pair (.int .i64) (.pair (.pair (.int .i64) (.int .i64)) (.int .i64)))))) xs, .view (.pair (.int .i64) (.pair (.seq (.pair (.int .i64) (.pair (.int .i64) (.int .i64)))) (.pair (.pair (.int .i64) (.int .i64)) (.pair (.int .i64) (.pair (.pair (.int .i64) (.int .i64)) (.int .i64)))))) ys], [], [.bool r, .int .i64 i], []⟩ => some (.p (((0 ≤ i ∧ i ≤ (xs.length : Int)) ∧ xs.length = ys.length ∧ (xs.length : Int) ≤ 9223372036854775807) ∧ ∀ z ∈ xs, pLen z.2.1 ≤ 9223372036854775807), .ite (decide (xs.drop i.toNat = ys.drop i.toNat)) (.leaf (.exit 0) [.bool r, .int .i64 (xs.length : Int)] []) (.leaf .ret [.bool false, .unk] []))
  | _ => none }
def ct_eqItemS : Ct := ctOf [.v qItem, .v qItem] (fun ((xs : List tItem.den), (ys : List tItem.den), _) => .p ((xs.length : Int) ≤ 9223372036854775807 ∧ ∀ z ∈ xs, pLen z.2.1 ≤ 9223372036854775807)) (fun ((xs : List tItem.den), (ys : List tItem.den), _) => .bool (decide (xs = ys)))
set_option maxHeartbeats 1000000 in
theorem loop_eqItemS_0 : LoopSat Try.prog Try.f12.ntmps (loopAt Try.f12 0) ann_eqItemS_0 := by
  refine loopSat_of (C := C_Fn_14) (L := (addL (firstId (loopAt Try.f12 0)) ann_eqItemS_0 noL)) (wr := false) mixedOk C_Fn_14_ok (loopsIn0 (by kernel_rfl)) (fun d => match d.same, d.vals with | .view _ xs :: _, [_, .int _ i] => ((xs.length : Int) - i).toNat | _, _ => 0) fun d p t hG hp => ?_
  simp only [ann_eqItemS_0] at hG
  split at hG
  rotate_left
  · simp at hG
  rename_i xs ys r i
  simp only [Option.some.injEq, Prod.mk.injEq] at hG
  obtain ⟨rfl, rfl⟩ := hG
  have htree : exRound Try.prog C_Fn_14 false (addL (firstId (loopAt Try.f12 0)) ann_eqItemS_0 noL) Try.f12.ntmps ann_eqItemS_0 (loopAt Try.f12 0) ⟨[.view tItem xs, .view tItem ys], [], [.bool r, .int .i64 i], []⟩ = .ite (decide (i < (↑xs.length : Int))) (.need ((0 : Int) ≤ i ∧ i < (↑xs.length : Int)) (.need ((0 : Int) ≤ i ∧ i < (↑ys.length : Int)) (.need (pLen (getT tItem xs i).snd.fst ≤ (9223372036854775807 : Int)) (.ite (!decide (((getT tItem xs i).fst, (getT tItem xs i).snd.fst, ((getT tItem xs i).snd.snd.fst.fst, (getT tItem xs i).snd.snd.fst.snd), (getT tItem xs i).snd.snd.snd.fst, ((getT tItem xs i).snd.snd.snd.snd.fst.fst, (getT tItem xs i).snd.snd.snd.snd.fst.snd), (getT tItem xs i).snd.snd.snd.snd.snd) = ((getT tItem ys i).fst, (getT tItem ys i).snd.fst, ((getT tItem ys i).snd.snd.fst.fst, (getT tItem ys i).snd.snd.fst.snd), (getT tItem ys i).snd.snd.snd.fst, ((getT tItem ys i).snd.snd.snd.snd.fst.fst, (getT tItem ys i).snd.snd.snd.snd.fst.snd), (getT tItem ys i).snd.snd.snd.snd.snd))) (.leaf (.ret, ⟨[.view (I64.pair (tPitch.seq.pair (tFrac.pair (I64.pair (tIv.pair I64))))) (xs), .view (I64.pair (tPitch.seq.pair (tFrac.pair (I64.pair (tIv.pair I64))))) (ys)], [], [.bool (false), .int .i64 (i)], []⟩)) (.need (inK IntKind.i64 (i + (1 : Int))) (.leaf (.normal, ⟨[.view (I64.pair (tPitch.seq.pair (tFrac.pair (I64.pair (tIv.pair I64))))) (xs), .view (I64.pair (tPitch.seq.pair (tFrac.pair (I64.pair (tIv.pair I64))))) (ys)], [], [.bool (r), .int .i64 (i + (1 : Int))], []⟩))))))) (.leaf ((.exit 0), ⟨[.view (I64.pair (tPitch.seq.pair (tFrac.pair (I64.pair (tIv.pair I64))))) (xs), .view (I64.pair (tPitch.seq.pair (tFrac.pair (I64.pair (tIv.pair I64))))) (ys)], [], [.bool (r), .int .i64 (i)], []⟩)) := by kernel_rfl
  rw [htree]
  clear htree
  replace hp : ((0 ≤ i ∧ i ≤ (xs.length : Int)) ∧ xs.length = ys.length ∧ (xs.length : Int) ≤ 9223372036854775807) ∧ ∀ z ∈ xs, pLen z.2.1 ≤ 9223372036854775807 := hp
  obtain ⟨hp, hq⟩ := hp
  have hz := item_at (by omega) hq i.toNat
  simp only [Tree.ok, tyd_inj, packAV, AV.same, AV.same.sameL, encV, encS, enc, inK, Nd.ok, List.headD_cons, List.cons_append, List.nil_append, List.append_nil, true_and, and_true, Bool.true_and, Bool.and_true, loop_next, weakBs_nil, weakBs_cons, weakB_self, weakB_row, weakB_int, weakL_nil, weakL_unk, weakL_guess, isRow_own, isRow_unk, weakL_int, weakL_bool, weakL_str, weakL_own, weakL_view, weakL_nilS, noRow_int, noRow_bool, own_inj, LTree.val, cond_true, cond_false, Prod.mk.injEq, List.cons.injEq, AV.int.injEq, AV.bool.injEq, AV.str.injEq, AV.agg.injEq, ann_eqItemS_0, decide_eq_true_eq, decide_eq_false_iff_not, bne_iff_ne, ne_eq, bne_eq_false_iff_eq, Bool.not_eq_true', Bool.not_eq_false', getT]
  refine ⟨fun ha => ?_, fun ha => ?_⟩
  · have h1 := drop_eq_iff xs ys i.toNat tItem.zero (by omega) (by omega)
    rw [show (i + 1).toNat = i.toNat + 1 by omega]
    repeat' first | apply And.intro | intro _
    all_goals first
      | omega
      | exact hz
      | exact hq _ ‹_›
      | (rw [decide_eq_false (show ¬ (xs.drop i.toNat = ys.drop i.toNat) by grind)]; simp [Tree.ok, tyd_inj, packAV, AV.same, AV.same.sameL, encV, encS, enc, inK, Nd.ok, List.headD_cons, List.cons_append, List.nil_append, List.append_nil, true_and, and_true, Bool.true_and, Bool.and_true, loop_next, weakBs_nil, weakBs_cons, weakB_self, weakB_row, weakB_int, weakL_nil, weakL_unk, weakL_guess, isRow_own, isRow_unk, weakL_int, weakL_bool, weakL_str, weakL_own, weakL_view, weakL_nilS, noRow_int, noRow_bool, own_inj, LTree.val, cond_true, cond_false, Prod.mk.injEq, List.cons.injEq, AV.int.injEq, AV.bool.injEq, AV.str.injEq, AV.agg.injEq]; done)
      | rw [show decide (xs.drop i.toNat = ys.drop i.toNat) = decide (xs.drop (i.toNat + 1) = ys.drop (i.toNat + 1)) by grind]
  · have h1 : i.toNat = xs.length := by omega
    have h2 : xs.length = ys.length := by omega
    rw [h1, decide_eq_true (show xs.drop xs.length = ys.drop xs.length by rw [List.drop_length, h2, List.drop_length])]
    simp [Tree.ok, tyd_inj, packAV, AV.same, AV.same.sameL, encV, encS, enc, inK, Nd.ok, List.headD_cons, List.cons_append, List.nil_append, List.append_nil, true_and, and_true, Bool.true_and, Bool.and_true, loop_next, weakBs_nil, weakBs_cons, weakB_self, weakB_row, weakB_int, weakL_nil, weakL_unk, weakL_guess, isRow_own, isRow_unk, weakL_int, weakL_bool, weakL_str, weakL_own, weakL_view, weakL_nilS, noRow_int, noRow_bool, own_inj, LTree.val, cond_true, cond_false, Prod.mk.injEq, List.cons.injEq, AV.int.injEq, AV.bool.injEq, AV.str.injEq, AV.agg.injEq]
    omega
theorem loops_eqItemS : ∀ c, Try.f12.body = some c → LoopsOk Try.prog (addL (firstId (loopAt Try.f12 0)) ann_eqItemS_0 noL) Try.f12.ntmps c := loopsN fun i hi ann h => by
  have hn : loopN Try.f12 = 1 := by kernel_rfl
  rw [hn] at hi
  exact match i, hi, h with
    | 0, _, h => (Option.some.inj ((show (addL (firstId (loopAt Try.f12 0)) ann_eqItemS_0 noL) (firstId (loopAt Try.f12 0)) = some ann_eqItemS_0 from by kernel_rfl).symm.trans h)) ▸ loop_eqItemS_0
set_option maxHeartbeats 1000000 in
theorem sat_eqItemS : Sat Try.prog 12 ct_eqItemS := by
  refine sat_typed (C := C_Fn_14) (L := (addL (firstId (loopAt Try.f12 0)) ann_eqItemS_0 noL)) (wr := false) mixedOk Try.func12 C_Fn_14_ok (loops_eqItemS) (fun _ => by first | rfl | (simp [ownsOf, ownsOf.ownsL, enc, encV, encS])) fun x hp => ?_
  obtain ⟨(xs : List tItem.den), (ys : List tItem.den), _⟩ := x
  replace hp : (xs.length : Int) ≤ 9223372036854775807 ∧ ∀ z ∈ xs, pLen z.2.1 ≤ 9223372036854775807 := hp
  have htree : exFunc Try.prog C_Fn_14 false (addL (firstId (loopAt Try.f12 0)) ann_eqItemS_0 noL) Try.f12 (encA [.v qItem, .v qItem] (xs, ys, ())) = .ite ((↑xs.length : Int) != (↑ys.length : Int)) (.leaf [.lit false]) (.need ((((0 : Int) ≤ (0 : Int) ∧ (0 : Int) ≤ (↑xs.length : Int)) ∧ xs.length = ys.length ∧ (↑xs.length : Int) ≤ (9223372036854775807 : Int)) ∧ ∀ (z : ((Ty.int IntKind.i64).pair (((Ty.int IntKind.i64).pair ((Ty.int IntKind.i64).pair (Ty.int IntKind.i64))).seq.pair (((Ty.int IntKind.i64).pair (Ty.int IntKind.i64)).pair ((Ty.int IntKind.i64).pair (((Ty.int IntKind.i64).pair (Ty.int IntKind.i64)).pair (Ty.int IntKind.i64)))))).den), z ∈ xs → pLen z.snd.fst ≤ (9223372036854775807 : Int)) (.ite (decide (List.drop (Int.toNat (0 : Int)) xs = List.drop (Int.toNat (0 : Int)) ys)) (.leaf [.lit true]) (.leaf [.bool (false)]))) := by kernel_rfl
  refine (congrArg (Tree.ok _) htree).mpr ?_
  clear htree
  simp only [Tree.ok, tyd_inj, packAV, AV.same, AV.same.sameL, encV, encS, enc, inK, Nd.ok, List.headD_cons, List.cons_append, List.nil_append, List.append_nil, true_and, and_true, Bool.true_and, Bool.and_true, Int.toNat_zero, List.drop_zero, decide_eq_true_eq, decide_eq_false_iff_not, bne_iff_ne, ne_eq, bne_eq_false_iff_eq]
  repeat' first | apply And.intro | intro _
  all_goals first | omega | exact hp.2 _ ‹_› | grind
def C_Fn_15 : FuncId → Option Ct := addC 12 ct_eqItemS C_Fn_14
theorem C_Fn_15_ok : COk Try.prog C_Fn_15 := addC_ok C_Fn_14_ok sat_eqItemS
def ct_sameItem : Ct := ctOf [.s tItem, .s tItem] (fun ((x : tItem.den), (y : tItem.den), _) => .p (pLen x.2.1 ≤ 9223372036854775807)) (fun ((x : tItem.den), (y : tItem.den), _) => .bool (decide (x = y)))
set_option maxHeartbeats 1000000 in
theorem sat_sameItem : Sat Try.prog 110 ct_sameItem := by
  refine sat_typed (C := C_Fn_15) (L := noL) (wr := false) mixedOk Try.func110 C_Fn_15_ok (loops0 (by kernel_rfl)) (fun _ => by first | rfl | (simp [ownsOf, ownsOf.ownsL, enc, encV, encS])) fun x hp => ?_
  obtain ⟨(x : tItem.den), (y : tItem.den), _⟩ := x
  replace hp : pLen x.2.1 ≤ 9223372036854775807 := hp
  have htree : exFunc Try.prog C_Fn_15 false noL Try.f110 (encA [.s tItem, .s tItem] (x, y, ())) = .ite (x.fst == y.fst) (.need ((↑(List.length x.snd.fst) : Int) ≤ (9223372036854775807 : Int)) (.ite (decide (x.snd.fst = y.snd.fst)) (.ite (x.snd.snd.fst.fst == y.snd.snd.fst.fst && x.snd.snd.fst.snd == y.snd.snd.fst.snd) (.ite (x.snd.snd.snd.fst == y.snd.snd.snd.fst) (.ite (x.snd.snd.snd.snd.fst.fst == y.snd.snd.snd.snd.fst.fst && x.snd.snd.snd.snd.fst.snd == y.snd.snd.snd.snd.fst.snd) (.leaf [.bool (x.snd.snd.snd.snd.snd == y.snd.snd.snd.snd.snd)]) (.leaf [.lit false])) (.leaf [.lit false])) (.leaf [.lit false])) (.leaf [.lit false]))) (.leaf [.lit false]) := by kernel_rfl
  refine (congrArg (Tree.ok _) htree).mpr ?_
  clear htree
  simp only [pLen] at hp
  simp only [Tree.ok, tyd_inj, packAV, AV.same, AV.same.sameL, encV, encS, enc, inK, Nd.ok, List.headD_cons, List.cons_append, List.nil_append, List.append_nil, true_and, and_true, Bool.true_and, Bool.and_true, Prod.ext_iff]
  repeat' first | apply And.intro | intro _
  all_goals grind
def C_Fn_16 : FuncId → Option Ct := addC 110 ct_sameItem C_Fn_15
theorem C_Fn_16_ok : COk Try.prog C_Fn_16 := addC_ok C_Fn_15_ok sat_sameItem
def ct_l19Same : Ct := ctOf [.p tItem, .p tItem] (fun ((x : tItem.den), (y : tItem.den), _) => .p (pLen x.2.1 ≤ 9223372036854775807)) (fun ((x : tItem.den), (y : tItem.den), _) => .bool (decide (x = y)))
set_option maxHeartbeats 1000000 in
theorem sat_l19Same : Sat Try.prog 84 ct_l19Same := by
  refine sat_typed (C := C_Fn_16) (L := noL) (wr := false) mixedOk Try.func84 C_Fn_16_ok (loops0 (by kernel_rfl)) (fun _ => by first | rfl | (simp [ownsOf, ownsOf.ownsL, enc, encV, encS])) fun x hp => ?_
  obtain ⟨(x : tItem.den), (y : tItem.den), _⟩ := x
  replace hp : pLen x.2.1 ≤ 9223372036854775807 := hp
  have htree : exFunc Try.prog C_Fn_16 false noL Try.f84 (encA [.p tItem, .p tItem] (x, y, ())) = .ite (x.fst == y.fst) (.need ((↑(List.length x.snd.fst) : Int) ≤ (9223372036854775807 : Int)) (.ite (decide (x.snd.fst = y.snd.fst)) (.ite (x.snd.snd.fst.fst == y.snd.snd.fst.fst && x.snd.snd.fst.snd == y.snd.snd.fst.snd) (.ite (x.snd.snd.snd.fst == y.snd.snd.snd.fst) (.ite (x.snd.snd.snd.snd.fst.fst == y.snd.snd.snd.snd.fst.fst && x.snd.snd.snd.snd.fst.snd == y.snd.snd.snd.snd.fst.snd) (.leaf [.bool (x.snd.snd.snd.snd.snd == y.snd.snd.snd.snd.snd)]) (.leaf [.lit false])) (.leaf [.lit false])) (.leaf [.lit false])) (.leaf [.lit false]))) (.leaf [.lit false]) := by kernel_rfl
  refine (congrArg (Tree.ok _) htree).mpr ?_
  clear htree
  simp only [pLen] at hp
  simp only [Tree.ok, tyd_inj, packAV, AV.same, AV.same.sameL, encV, encS, enc, inK, Nd.ok, List.headD_cons, List.cons_append, List.nil_append, List.append_nil, true_and, and_true, Bool.true_and, Bool.and_true, Prod.ext_iff]
  repeat' first | apply And.intro | intro _
  all_goals grind
def C_Fn_17 : FuncId → Option Ct := addC 84 ct_l19Same C_Fn_16
theorem C_Fn_17_ok : COk Try.prog C_Fn_17 := addC_ok C_Fn_16_ok sat_l19Same

def C_Fn : FuncId → Option Ct := C_Fn_17
theorem C_Fn_ok : COk Try.prog C_Fn := C_Fn_17_ok
end Go.Proofs.Ytemlpimibhijoaa
