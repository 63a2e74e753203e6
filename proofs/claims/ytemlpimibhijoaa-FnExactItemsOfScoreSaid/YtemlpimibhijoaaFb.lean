/- Contracts: scores taken over, compared, counted. Conditions: as each says. -/
import Derived.Test.YtemlpimibhijoaaFa
set_option linter.unusedSimpArgs false
set_option linter.unusedVariables false
namespace Go.Proofs.Ytemlpimibhijoaa
open Go.RowKit Sx
set_option maxRecDepth 100000
set_option maxHeartbeats 1000000
def ct_toNote : Ct := ctOf [.s tNote] (fun _ => .tt) (fun ((x : tNote.den), _) => .agg (enc tNote x))
set_option maxHeartbeats 1000000 in
theorem sat_toNote : Sat Try.prog 92 ct_toNote := by
  refine sat_typed (C := C_Fa) (L := noL) (wr := false) mixedOk Try.func92 C_Fa_ok (loops0 (by kernel_rfl)) (fun _ => by first | rfl | (simp [ownsOf, ownsOf.ownsL, enc, encV, encS])) fun x hp => ?_
  obtain ⟨(x : tNote.den), _⟩ := x
  clear hp
  have htree : exFunc Try.prog C_Fa false noL Try.f92 (encA [.s tNote] (x, ())) = .leaf [.agg [.int .i64 (x.fst.fst), .int .i64 (x.fst.snd), .int .i64 (x.snd.fst.fst), .int .i64 (x.snd.fst.snd), .int .i64 (x.snd.snd.fst), .int .i64 (x.snd.snd.snd.fst), .int .i64 (x.snd.snd.snd.snd)]] := by kernel_rfl
  refine (congrArg (Tree.ok _) htree).mpr ?_
  clear htree
  simp [Tree.ok, tyd_inj, packAV, AV.same, AV.same.sameL, encV, encS, enc, inK, Nd.ok, List.headD_cons, List.cons_append, List.nil_append, List.append_nil, true_and, and_true, Bool.true_and, Bool.and_true]
def C_Fb_1 : FuncId → Option Ct := addC 92 ct_toNote C_Fa
theorem C_Fb_1_ok : COk Try.prog C_Fb_1 := addC_ok C_Fa_ok sat_toNote
def ct_eqNote : Ct := ctOf [.s tNote, .s tNote] (fun _ => .tt) (fun ((x : tNote.den), (y : tNote.den), _) => .bool (decide (x = y)))
set_option maxHeartbeats 1000000 in
theorem sat_eqNote : Sat Try.prog 77 ct_eqNote := by
  refine sat_typed (C := C_Fb_1) (L := noL) (wr := false) mixedOk Try.func77 C_Fb_1_ok (loops0 (by kernel_rfl)) (fun _ => by first | rfl | (simp [ownsOf, ownsOf.ownsL, enc, encV, encS])) fun x hp => ?_
  obtain ⟨(x : tNote.den), (y : tNote.den), _⟩ := x
  clear hp
  have htree : exFunc Try.prog C_Fb_1 false noL Try.f77 (encA [.s tNote, .s tNote] (x, y, ())) = .ite (!decide (x.fst.fst = y.fst.fst ∧ x.fst.snd = y.fst.snd)) (.leaf [.lit false]) (.ite (!decide (x.snd.fst.fst = y.snd.fst.fst ∧ x.snd.fst.snd = y.snd.fst.snd)) (.leaf [.lit false]) (.ite (x.snd.snd.fst != y.snd.snd.fst) (.leaf [.lit false]) (.ite (x.snd.snd.snd.fst != y.snd.snd.snd.fst) (.leaf [.lit false]) (.ite (x.snd.snd.snd.snd != y.snd.snd.snd.snd) (.leaf [.lit false]) (.leaf [.lit true]))))) := by kernel_rfl
  refine (congrArg (Tree.ok _) htree).mpr ?_
  clear htree
  simp only [Tree.ok, tyd_inj, packAV, AV.same, AV.same.sameL, encV, encS, enc, inK, Nd.ok, List.headD_cons, List.cons_append, List.nil_append, List.append_nil, true_and, and_true, Bool.true_and, Bool.and_true, Prod.ext_iff, Bool.not_eq_true', Bool.not_eq_false', decide_eq_true_eq, decide_eq_false_iff_not]
  repeat' first | apply And.intro | intro _
  all_goals (first | (apply Eq.symm; simp only [decide_eq_true_eq, decide_eq_false_iff_not]) | simp only [eq_comm (a := false), eq_comm (a := true), decide_eq_true_eq, decide_eq_false_iff_not])
  all_goals grind
def C_Fb_2 : FuncId → Option Ct := addC 77 ct_eqNote C_Fb_1
theorem C_Fb_2_ok : COk Try.prog C_Fb_2 := addC_ok C_Fb_1_ok sat_eqNote
def ann_toNoteS_0 : LAnn := { sameS := [0], modS := [3, 4], sameH := [], modH := [], base := 900000, nilE := [], nilB := [], G := fun
  | ⟨[.view (.pair (.pair (.int .i64) (.int .i64)) (.pair (.pair (.int .i64) (.int .i64)) (.pair (.int .i64) (.pair (.int .i64) (.int .i64))))) ys], [], [.own (.pair (.pair (.int .i64) (.int .i64)) (.pair (.pair (.int .i64) (.int .i64)) (.pair (.int .i64) (.pair (.int .i64) (.int .i64))))) xs, .int .i64 i], []⟩ => some (.p ((0 ≤ i ∧ i ≤ (ys.length : Int)) ∧ xs.length = ys.length ∧ ys.length ≤ 16777216), .leaf (.exit 0) [.own tNote (xs.take i.toNat ++ ys.drop i.toNat), .int .i64 (ys.length : Int)] [])
  | _ => none }
def ct_toNoteS : Ct := ctOf [.v qNote] (fun ((ys : List tNote.den), _) => .p (ys.length ≤ 16777216)) (fun ((ys : List tNote.den), _) => .own tNote ys)
set_option maxHeartbeats 1000000 in
theorem loop_toNoteS_0 : LoopSat Try.prog Try.f54.ntmps (loopAt Try.f54 0) ann_toNoteS_0 := by
  refine loopSat_of (C := C_Fb_2) (L := (addL (firstId (loopAt Try.f54 0)) ann_toNoteS_0 noL)) (wr := false) mixedOk C_Fb_2_ok (loopsIn0 (by kernel_rfl)) (fun d => match d.same, d.vals with | [.view _ ys], [_, .int _ i] => ((ys.length : Int) - i).toNat | _, _ => 0) fun d p t hG hp => ?_
  simp only [ann_toNoteS_0] at hG
  split at hG
  rotate_left
  · simp at hG
  rename_i ys xs i
  simp only [Option.some.injEq, Prod.mk.injEq] at hG
  obtain ⟨rfl, rfl⟩ := hG
  have htree : exRound Try.prog C_Fb_2 false (addL (firstId (loopAt Try.f54 0)) ann_toNoteS_0 noL) Try.f54.ntmps ann_toNoteS_0 (loopAt Try.f54 0) ⟨[.view tNote ys], [], [.own tNote xs, .int .i64 i], []⟩ = .ite (decide (i < (↑ys.length : Int))) (.need ((0 : Int) ≤ i ∧ i < (↑ys.length : Int)) (.need ((0 : Int) ≤ i ∧ i < (↑xs.length : Int)) (.need (i.toNat < xs.length) (.need (inK IntKind.i64 (i + (1 : Int))) (.leaf (.normal, ⟨[.view (tFrac.pair (tFrac.pair (I64.pair (I64.pair I64)))) (ys)], [], [.own (tFrac.pair (tFrac.pair (I64.pair (I64.pair I64)))) (xs.set i.toNat (((getT tNote ys i).fst.fst, (getT tNote ys i).fst.snd), ((getT tNote ys i).snd.fst.fst, (getT tNote ys i).snd.fst.snd), (getT tNote ys i).snd.snd.fst, (getT tNote ys i).snd.snd.snd.fst, (getT tNote ys i).snd.snd.snd.snd)), .int .i64 (i + (1 : Int))], []⟩)))))) (.leaf ((.exit 0), ⟨[.view (tFrac.pair (tFrac.pair (I64.pair (I64.pair I64)))) (ys)], [], [.own (tFrac.pair (tFrac.pair (I64.pair (I64.pair I64)))) (xs), .int .i64 (i)], []⟩)) := by kernel_rfl
  rw [htree]
  clear htree
  replace hp : (0 ≤ i ∧ i ≤ (ys.length : Int)) ∧ xs.length = ys.length ∧ ys.length ≤ 16777216 := hp
  simp only [Tree.ok, tyd_inj, packAV, AV.same, AV.same.sameL, encV, encS, enc, inK, Nd.ok, List.headD_cons, List.cons_append, List.nil_append, List.append_nil, true_and, and_true, Bool.true_and, Bool.and_true, loop_next, weakBs_nil, weakBs_cons, weakB_self, weakB_row, weakB_int, weakL_nil, weakL_unk, weakL_guess, isRow_own, isRow_unk, weakL_int, weakL_bool, weakL_str, weakL_own, weakL_view, weakL_nilS, noRow_int, noRow_bool, own_inj, LTree.val, cond_true, cond_false, Prod.mk.injEq, List.cons.injEq, AV.int.injEq, AV.bool.injEq, AV.str.injEq, AV.agg.injEq, ann_toNoteS_0, decide_eq_true_eq, decide_eq_false_iff_not]
  refine ⟨fun ha => ?_, fun ha => ?_⟩
  · have h1 := set_front xs ys i.toNat tNote.zero (by omega) hp.2.1
    refine ⟨by omega, by omega, by omega, by omega, by omega, ⟨by omega, by rw [List.length_set]; exact hp.2.1, hp.2.2⟩, ?_⟩
    rw [show (i + 1).toNat = i.toNat + 1 by omega]
    exact h1
  · have h1 : i.toNat = ys.length := by omega
    rw [h1]
    exact ⟨by simp [List.take_of_length_le (show xs.length ≤ ys.length by omega)], by omega⟩
theorem loops_toNoteS : ∀ c, Try.f54.body = some c → LoopsOk Try.prog (addL (firstId (loopAt Try.f54 0)) ann_toNoteS_0 noL) Try.f54.ntmps c := loopsN fun i hi ann h => by
  have hn : loopN Try.f54 = 1 := by kernel_rfl
  rw [hn] at hi
  exact match i, hi, h with
    | 0, _, h => (Option.some.inj ((show (addL (firstId (loopAt Try.f54 0)) ann_toNoteS_0 noL) (firstId (loopAt Try.f54 0)) = some ann_toNoteS_0 from by kernel_rfl).symm.trans h)) ▸ loop_toNoteS_0
set_option maxHeartbeats 1000000 in
theorem sat_toNoteS : Sat Try.prog 54 ct_toNoteS := by
  refine sat_typed (C := C_Fb_2) (L := (addL (firstId (loopAt Try.f54 0)) ann_toNoteS_0 noL)) (wr := false) mixedOk Try.func54 C_Fb_2_ok (loops_toNoteS) (fun _ => by first | rfl | (simp [ownsOf, ownsOf.ownsL, enc, encV, encS])) fun x hp => ?_
  obtain ⟨(ys : List tNote.den), _⟩ := x
  replace hp : ys.length ≤ 16777216 := hp
  have htree : exFunc Try.prog C_Fb_2 false (addL (firstId (loopAt Try.f54 0)) ann_toNoteS_0 noL) Try.f54 (encA [.v qNote] (ys, ())) = .need ((0 : Int) ≤ (↑ys.length : Int) ∧ (↑ys.length : Int) ≤ (↑ys.length : Int) ∧ (↑ys.length : Int) ≤ (16777216 : Int)) (.need (((0 : Int) ≤ (0 : Int) ∧ (0 : Int) ≤ (↑ys.length : Int)) ∧ (List.replicate (↑ys.length : Int).toNat (((0 : Int), (0 : Int)), ((0 : Int), (0 : Int)), (0 : Int), (0 : Int), (0 : Int))).length = ys.length ∧ ys.length ≤ (16777216 : Nat)) (.leaf [.own (tFrac.pair (tFrac.pair (I64.pair (I64.pair I64)))) (List.take (Int.toNat (0 : Int)) (List.replicate (↑ys.length : Int).toNat (((0 : Int), (0 : Int)), ((0 : Int), (0 : Int)), (0 : Int), (0 : Int), (0 : Int))) ++ List.drop (Int.toNat (0 : Int)) ys)])) := by kernel_rfl
  refine (congrArg (Tree.ok _) htree).mpr ?_
  clear htree
  simp [Tree.ok, tyd_inj, packAV, AV.same, AV.same.sameL, encV, encS, enc, inK, Nd.ok, List.headD_cons, List.cons_append, List.nil_append, List.append_nil, true_and, and_true, Bool.true_and, Bool.and_true]
  omega
def C_Fb_3 : FuncId → Option Ct := addC 54 ct_toNoteS C_Fb_2
theorem C_Fb_3_ok : COk Try.prog C_Fb_3 := addC_ok C_Fb_2_ok sat_toNoteS
def ct_toScore : Ct := ctOf [.s qNote] (fun ((ys : List tNote.den), _) => .p (ys.length ≤ 16777216)) (fun ((ys : List tNote.den), _) => .agg [.own tNote ys])
set_option maxHeartbeats 1000000 in
theorem sat_toScore : Sat Try.prog 23 ct_toScore := by
  refine sat_typed (C := C_Fb_3) (L := noL) (wr := false) mixedOk Try.func23 C_Fb_3_ok (loops0 (by kernel_rfl)) (fun _ => by first | rfl | (simp [ownsOf, ownsOf.ownsL, enc, encV, encS])) fun x hp => ?_
  obtain ⟨(ys : List tNote.den), _⟩ := x
  replace hp : ys.length ≤ 16777216 := hp
  have htree : exFunc Try.prog C_Fb_3 false noL Try.f23 (encA [.s qNote] (ys, ())) = .need (ys.length ≤ (16777216 : Nat)) (.leaf [.agg [.own (tFrac.pair (tFrac.pair (I64.pair (I64.pair I64)))) (ys)]]) := by kernel_rfl
  refine (congrArg (Tree.ok _) htree).mpr ?_
  clear htree
  simp [Tree.ok, tyd_inj, packAV, AV.same, AV.same.sameL, encV, encS, enc, inK, Nd.ok, List.headD_cons, List.cons_append, List.nil_append, List.append_nil, true_and, and_true, Bool.true_and, Bool.and_true]
  omega
def C_Fb_4 : FuncId → Option Ct := addC 23 ct_toScore C_Fb_3
theorem C_Fb_4_ok : COk Try.prog C_Fb_4 := addC_ok C_Fb_3_ok sat_toScore
def ct_szNoteS : Ct := ctOf [.v qNote, .v (.int .i64)] (fun ((ys : List tNote.den), (n : Int), _) => .p ((0 ≤ n ∧ n ≤ 1048576) ∧ (ys.length : Int) ≤ 9223372036854775807)) (fun ((ys : List tNote.den), (n : Int), _) => .int .i64 (if n - (ys.length : Int) < 0 then -1 else n - (ys.length : Int)))
set_option maxHeartbeats 1000000 in
theorem sat_szNoteS : Sat Try.prog 49 ct_szNoteS := by
  refine sat_typed (C := C_Fb_4) (L := noL) (wr := false) mixedOk Try.func49 C_Fb_4_ok (loops0 (by kernel_rfl)) (fun _ => by first | rfl | (simp [ownsOf, ownsOf.ownsL, enc, encV, encS])) fun x hp => ?_
  obtain ⟨(ys : List tNote.den), (n : Int), _⟩ := x
  replace hp : (0 ≤ n ∧ n ≤ 1048576) ∧ (ys.length : Int) ≤ 9223372036854775807 := hp
  have htree : exFunc Try.prog C_Fb_4 false noL Try.f49 (encA [.v qNote, .v (.int .i64)] (ys, n, ())) = .need (inK IntKind.i64 (n - (↑ys.length : Int))) (.ite (decide (n - (↑ys.length : Int) < (0 : Int))) (.leaf [.int .i64 ((-1 : Int))]) (.leaf [.int .i64 (n - (↑ys.length : Int))])) := by kernel_rfl
  refine (congrArg (Tree.ok _) htree).mpr ?_
  clear htree
  simp only [Tree.ok, tyd_inj, packAV, AV.same, AV.same.sameL, encV, encS, enc, inK, Nd.ok, List.headD_cons, List.cons_append, List.nil_append, List.append_nil, true_and, and_true, Bool.true_and, Bool.and_true]
  grind
def C_Fb_5 : FuncId → Option Ct := addC 49 ct_szNoteS C_Fb_4
theorem C_Fb_5_ok : COk Try.prog C_Fb_5 := addC_ok C_Fb_4_ok sat_szNoteS
def ct_szScore : Ct := ctOf [.s qNote, .v (.int .i64)] (fun ((ys : List tNote.den), (n : Int), _) => .p ((0 ≤ n ∧ n ≤ 1048576) ∧ (ys.length : Int) ≤ 9223372036854775807)) (fun ((ys : List tNote.den), (n : Int), _) => .int .i64 (if n - (ys.length : Int) < 0 then -1 else n - (ys.length : Int)))
set_option maxHeartbeats 1000000 in
theorem sat_szScore : Sat Try.prog 21 ct_szScore := by
  refine sat_typed (C := C_Fb_5) (L := noL) (wr := false) mixedOk Try.func21 C_Fb_5_ok (loops0 (by kernel_rfl)) (fun _ => by first | rfl | (simp [ownsOf, ownsOf.ownsL, enc, encV, encS])) fun x hp => ?_
  obtain ⟨(ys : List tNote.den), (n : Int), _⟩ := x
  replace hp : (0 ≤ n ∧ n ≤ 1048576) ∧ (ys.length : Int) ≤ 9223372036854775807 := hp
  have htree : exFunc Try.prog C_Fb_5 false noL Try.f21 (encA [.s qNote, .v (.int .i64)] (ys, n, ())) = .need (((0 : Int) ≤ n ∧ n ≤ (1048576 : Int)) ∧ (↑ys.length : Int) ≤ (9223372036854775807 : Int)) (.ite (decide ((if n - (↑ys.length : Int) < (0 : Int) then (-1 : Int) else n - (↑ys.length : Int)) < (0 : Int))) (.leaf [.int .i64 ((-1 : Int))]) (.leaf [.int .i64 (if n - (↑ys.length : Int) < (0 : Int) then (-1 : Int) else n - (↑ys.length : Int))])) := by kernel_rfl
  refine (congrArg (Tree.ok _) htree).mpr ?_
  clear htree
  simp only [Tree.ok, tyd_inj, packAV, AV.same, AV.same.sameL, encV, encS, enc, inK, Nd.ok, List.headD_cons, List.cons_append, List.nil_append, List.append_nil, true_and, and_true, Bool.true_and, Bool.and_true]
  grind
def C_Fb_6 : FuncId → Option Ct := addC 21 ct_szScore C_Fb_5
theorem C_Fb_6_ok : COk Try.prog C_Fb_6 := addC_ok C_Fb_5_ok sat_szScore
def ann_eqNoteS_0 : LAnn := { sameS := [0, 1], modS := [4, 5], sameH := [], modH := [], base := 900000, nilE := [], nilB := [], G := fun
  | ⟨[.view (.pair (.pair (.int .i64) (.int .i64)) (.pair (.pair (.int .i64) (.int .i64)) (.pair (.int .i64) (.pair (.int .i64) (.int .i64))))) xs, .view (.pair (.pair (.int .i64) (.int .i64)) (.pair (.pair (.int .i64) (.int .i64)) (.pair (.int .i64) (.pair (.int .i64) (.int .i64))))) ys], [], [.bool r, .int .i64 i], []⟩ => some (.p ((0 ≤ i ∧ i ≤ (xs.length : Int)) ∧ xs.length = ys.length ∧ (xs.length : Int) ≤ 9223372036854775807), .ite (decide (xs.drop i.toNat = ys.drop i.toNat)) (.leaf (.exit 0) [.bool r, .int .i64 (xs.length : Int)] []) (.leaf .ret [.bool false, .unk] []))
  | _ => none }
def ct_eqNoteS : Ct := ctOf [.v qNote, .v qNote] (fun ((xs : List tNote.den), (ys : List tNote.den), _) => .p ((xs.length : Int) ≤ 9223372036854775807)) (fun ((xs : List tNote.den), (ys : List tNote.den), _) => .bool (decide (xs = ys)))
set_option maxHeartbeats 1000000 in
theorem loop_eqNoteS_0 : LoopSat Try.prog Try.f34.ntmps (loopAt Try.f34 0) ann_eqNoteS_0 := by
  refine loopSat_of (C := C_Fb_6) (L := (addL (firstId (loopAt Try.f34 0)) ann_eqNoteS_0 noL)) (wr := false) mixedOk C_Fb_6_ok (loopsIn0 (by kernel_rfl)) (fun d => match d.same, d.vals with | [.view _ xs, _], [_, .int _ i] => ((xs.length : Int) - i).toNat | _, _ => 0) fun d p t hG hp => ?_
  simp only [ann_eqNoteS_0] at hG
  split at hG
  rotate_left
  · simp at hG
  rename_i xs ys r i
  simp only [Option.some.injEq, Prod.mk.injEq] at hG
  obtain ⟨rfl, rfl⟩ := hG
  have htree : exRound Try.prog C_Fb_6 false (addL (firstId (loopAt Try.f34 0)) ann_eqNoteS_0 noL) Try.f34.ntmps ann_eqNoteS_0 (loopAt Try.f34 0) ⟨[.view tNote xs, .view tNote ys], [], [.bool r, .int .i64 i], []⟩ = .ite (decide (i < (↑xs.length : Int))) (.need ((0 : Int) ≤ i ∧ i < (↑xs.length : Int)) (.need ((0 : Int) ≤ i ∧ i < (↑ys.length : Int)) (.ite (!decide ((((getT tNote xs i).fst.fst, (getT tNote xs i).fst.snd), ((getT tNote xs i).snd.fst.fst, (getT tNote xs i).snd.fst.snd), (getT tNote xs i).snd.snd.fst, (getT tNote xs i).snd.snd.snd.fst, (getT tNote xs i).snd.snd.snd.snd) = (((getT tNote ys i).fst.fst, (getT tNote ys i).fst.snd), ((getT tNote ys i).snd.fst.fst, (getT tNote ys i).snd.fst.snd), (getT tNote ys i).snd.snd.fst, (getT tNote ys i).snd.snd.snd.fst, (getT tNote ys i).snd.snd.snd.snd))) (.leaf (.ret, ⟨[.view (tFrac.pair (tFrac.pair (I64.pair (I64.pair I64)))) (xs), .view (tFrac.pair (tFrac.pair (I64.pair (I64.pair I64)))) (ys)], [], [.bool (false), .int .i64 (i)], []⟩)) (.need (inK IntKind.i64 (i + (1 : Int))) (.leaf (.normal, ⟨[.view (tFrac.pair (tFrac.pair (I64.pair (I64.pair I64)))) (xs), .view (tFrac.pair (tFrac.pair (I64.pair (I64.pair I64)))) (ys)], [], [.bool (r), .int .i64 (i + (1 : Int))], []⟩)))))) (.leaf ((.exit 0), ⟨[.view (tFrac.pair (tFrac.pair (I64.pair (I64.pair I64)))) (xs), .view (tFrac.pair (tFrac.pair (I64.pair (I64.pair I64)))) (ys)], [], [.bool (r), .int .i64 (i)], []⟩)) := by kernel_rfl
  rw [htree]
  clear htree
  replace hp : (0 ≤ i ∧ i ≤ (xs.length : Int)) ∧ xs.length = ys.length ∧ (xs.length : Int) ≤ 9223372036854775807 := hp
  simp only [Tree.ok, tyd_inj, packAV, AV.same, AV.same.sameL, encV, encS, enc, inK, Nd.ok, List.headD_cons, List.cons_append, List.nil_append, List.append_nil, true_and, and_true, Bool.true_and, Bool.and_true, loop_next, weakBs_nil, weakBs_cons, weakB_self, weakB_row, weakB_int, weakL_nil, weakL_unk, weakL_guess, isRow_own, isRow_unk, weakL_int, weakL_bool, weakL_str, weakL_own, weakL_view, weakL_nilS, noRow_int, noRow_bool, own_inj, LTree.val, cond_true, cond_false, Prod.mk.injEq, List.cons.injEq, AV.int.injEq, AV.bool.injEq, AV.str.injEq, AV.agg.injEq, ann_eqNoteS_0, decide_eq_true_eq, decide_eq_false_iff_not, bne_iff_ne, ne_eq, bne_eq_false_iff_eq, getT]
  refine ⟨fun ha => ?_, fun ha => ?_⟩
  · have h1 := drop_eq_iff xs ys i.toNat tNote.zero (by omega) (by omega)
    simp only [Prod.ext_iff] at h1 ⊢
    rw [show (i + 1).toNat = i.toNat + 1 by omega]
    repeat' first | apply And.intro | intro _
    all_goals first
      | omega
      | (rw [decide_eq_false (show ¬ (xs.drop i.toNat = ys.drop i.toNat) by grind)]; simp [Tree.ok, tyd_inj, packAV, AV.same, AV.same.sameL, encV, encS, enc, inK, Nd.ok, List.headD_cons, List.cons_append, List.nil_append, List.append_nil, true_and, and_true, Bool.true_and, Bool.and_true, loop_next, weakBs_nil, weakBs_cons, weakB_self, weakB_row, weakB_int, weakL_nil, weakL_unk, weakL_guess, isRow_own, isRow_unk, weakL_int, weakL_bool, weakL_str, weakL_own, weakL_view, weakL_nilS, noRow_int, noRow_bool, own_inj, LTree.val, cond_true, cond_false, Prod.mk.injEq, List.cons.injEq, AV.int.injEq, AV.bool.injEq, AV.str.injEq, AV.agg.injEq]; done)
      | rw [show decide (xs.drop i.toNat = ys.drop i.toNat) = decide (xs.drop (i.toNat + 1) = ys.drop (i.toNat + 1)) by grind]
  · have h1 : i.toNat = xs.length := by omega
    have h2 : xs.length = ys.length := by omega
    rw [h1, decide_eq_true (show xs.drop xs.length = ys.drop xs.length by rw [List.drop_length, h2, List.drop_length])]
    simp [Tree.ok, tyd_inj, packAV, AV.same, AV.same.sameL, encV, encS, enc, inK, Nd.ok, List.headD_cons, List.cons_append, List.nil_append, List.append_nil, true_and, and_true, Bool.true_and, Bool.and_true, loop_next, weakBs_nil, weakBs_cons, weakB_self, weakB_row, weakB_int, weakL_nil, weakL_unk, weakL_guess, isRow_own, isRow_unk, weakL_int, weakL_bool, weakL_str, weakL_own, weakL_view, weakL_nilS, noRow_int, noRow_bool, own_inj, LTree.val, cond_true, cond_false, Prod.mk.injEq, List.cons.injEq, AV.int.injEq, AV.bool.injEq, AV.str.injEq, AV.agg.injEq]
    omega
theorem loops_eqNoteS : ∀ c, Try.f34.body = some c → LoopsOk Try.prog (addL (firstId (loopAt Try.f34 0)) ann_eqNoteS_0 noL) Try.f34.ntmps c := loopsN fun i hi ann h => by
  have hn : loopN Try.f34 = 1 := by kernel_rfl
  rw [hn] at hi
  exact match i, hi, h with
    | 0, _, h => (Option.some.inj ((show (addL (firstId (loopAt Try.f34 0)) ann_eqNoteS_0 noL) (firstId (loopAt Try.f34 0)) = some ann_eqNoteS_0 from by kernel_rfl).symm.trans h)) ▸ loop_eqNoteS_0
set_option maxHeartbeats 1000000 in
theorem sat_eqNoteS : Sat Try.prog 34 ct_eqNoteS := by
  refine sat_typed (C := C_Fb_6) (L := (addL (firstId (loopAt Try.f34 0)) ann_eqNoteS_0 noL)) (wr := false) mixedOk Try.func34 C_Fb_6_ok (loops_eqNoteS) (fun _ => by first | rfl | (simp [ownsOf, ownsOf.ownsL, enc, encV, encS])) fun x hp => ?_
  obtain ⟨(xs : List tNote.den), (ys : List tNote.den), _⟩ := x
  replace hp : (xs.length : Int) ≤ 9223372036854775807 := hp
  have htree : exFunc Try.prog C_Fb_6 false (addL (firstId (loopAt Try.f34 0)) ann_eqNoteS_0 noL) Try.f34 (encA [.v qNote, .v qNote] (xs, ys, ())) = .ite ((↑xs.length : Int) != (↑ys.length : Int)) (.leaf [.lit false]) (.need (((0 : Int) ≤ (0 : Int) ∧ (0 : Int) ≤ (↑xs.length : Int)) ∧ xs.length = ys.length ∧ (↑xs.length : Int) ≤ (9223372036854775807 : Int)) (.ite (decide (List.drop (Int.toNat (0 : Int)) xs = List.drop (Int.toNat (0 : Int)) ys)) (.leaf [.lit true]) (.leaf [.bool (false)]))) := by kernel_rfl
  refine (congrArg (Tree.ok _) htree).mpr ?_
  clear htree
  simp only [Tree.ok, tyd_inj, packAV, AV.same, AV.same.sameL, encV, encS, enc, inK, Nd.ok, List.headD_cons, List.cons_append, List.nil_append, List.append_nil, true_and, and_true, Bool.true_and, Bool.and_true, Int.toNat_zero, List.drop_zero, decide_eq_true_eq, decide_eq_false_iff_not, bne_iff_ne, ne_eq, bne_eq_false_iff_eq]
  repeat' first | apply And.intro | intro _
  all_goals grind
def C_Fb_7 : FuncId → Option Ct := addC 34 ct_eqNoteS C_Fb_6
theorem C_Fb_7_ok : COk Try.prog C_Fb_7 := addC_ok C_Fb_6_ok sat_eqNoteS
def ct_eqScore : Ct := ctOf [.s qNote, .s qNote] (fun ((xs : List tNote.den), (ys : List tNote.den), _) => .p ((xs.length : Int) ≤ 9223372036854775807)) (fun ((xs : List tNote.den), (ys : List tNote.den), _) => .bool (decide (xs = ys)))
set_option maxHeartbeats 1000000 in
theorem sat_eqScore : Sat Try.prog 11 ct_eqScore := by
  refine sat_typed (C := C_Fb_7) (L := noL) (wr := false) mixedOk Try.func11 C_Fb_7_ok (loops0 (by kernel_rfl)) (fun _ => by first | rfl | (simp [ownsOf, ownsOf.ownsL, enc, encV, encS])) fun x hp => ?_
  obtain ⟨(xs : List tNote.den), (ys : List tNote.den), _⟩ := x
  replace hp : (xs.length : Int) ≤ 9223372036854775807 := hp
  have htree : exFunc Try.prog C_Fb_7 false noL Try.f11 (encA [.s qNote, .s qNote] (xs, ys, ())) = .need ((↑xs.length : Int) ≤ (9223372036854775807 : Int)) (.ite (!decide (xs = ys)) (.leaf [.lit false]) (.leaf [.lit true])) := by kernel_rfl
  refine (congrArg (Tree.ok _) htree).mpr ?_
  clear htree
  simp only [Tree.ok, tyd_inj, packAV, AV.same, AV.same.sameL, encV, encS, enc, inK, Nd.ok, List.headD_cons, List.cons_append, List.nil_append, List.append_nil, true_and, and_true, Bool.true_and, Bool.and_true]
  grind
def C_Fb_8 : FuncId → Option Ct := addC 11 ct_eqScore C_Fb_7
theorem C_Fb_8_ok : COk Try.prog C_Fb_8 := addC_ok C_Fb_7_ok sat_eqScore

def C_Fb : FuncId → Option Ct := C_Fb_8
theorem C_Fb_ok : COk Try.prog C_Fb := C_Fb_8_ok
end Go.Proofs.Ytemlpimibhijoaa
