/- Contracts: tempo maps taken over, compared, counted. Conditions: ys each says. -/
import Derived.Test.YtkeckmdmmbeaiaaGreatDoorSxP
set_option linter.unusedSimpArgs false
set_option linter.unusedVariables false
namespace Go.Proofs.YtkeckmdmmbeaiaaGreatDoor
open Go.RowKit Sx
set_option maxRecDepth 100000
set_option maxHeartbeats 1000000
def ct_eqFrac : Ct := ctOf [.s tFrac, .s tFrac] (fun _ => .tt) (fun (((a : Int), (b : Int)), ((c : Int), (d : Int)), _) => .bool (decide (a = c ∧ b = d)))
set_option maxHeartbeats 1000000 in
theorem sat_eqFrac : Sat Tryz.prog 146 ct_eqFrac := by
  refine sat_typed (C := noC) (L := noL) (wr := false) mixedOk Tryz.func146 (noC_ok Tryz.prog) (loops0 (by kernel_rfl)) (fun _ => by first | rfl | (simp [ownsOf, ownsOf.ownsL, enc, encV, encS])) fun x hp => ?_
  obtain ⟨⟨(a : Int), (b : Int)⟩, ⟨(c : Int), (d : Int)⟩, _⟩ := x
  clear hp
  have htree : exFunc Tryz.prog noC false noL Tryz.f146 (encA [.s tFrac, .s tFrac] ((a, b), (c, d), ())) = .ite (a != c) (.leaf [.lit false]) (.ite (b != d) (.leaf [.lit false]) (.leaf [.lit true])) := by kernel_rfl
  refine (congrArg (Tree.ok _) htree).mpr ?_
  clear htree
  simp only [Tree.ok, tyd_inj, packAV, AV.same, AV.same.sameL, encV, encS, enc, inK, Nd.ok, List.headD_cons, List.cons_append, List.nil_append, List.append_nil, true_and, and_true, Bool.true_and, Bool.and_true]
  grind
def C_Fa_1 : FuncId → Option Ct := addC 146 ct_eqFrac noC
theorem C_Fa_1_ok : COk Tryz.prog C_Fa_1 := addC_ok (noC_ok Tryz.prog) sat_eqFrac
def ct_eqTempo : Ct := ctOf [.s tTempo, .s tTempo] (fun _ => .tt) (fun ((((a : Int), (b : Int)), (c : Int)), (((x : Int), (y : Int)), (z : Int)), _) => .bool (decide ((((a, b), c) : tTempo.den) = ((x, y), z))))
set_option maxHeartbeats 1000000 in
theorem sat_eqTempo : Sat Tryz.prog 106 ct_eqTempo := by
  refine sat_typed (C := C_Fa_1) (L := noL) (wr := false) mixedOk Tryz.func106 C_Fa_1_ok (loops0 (by kernel_rfl)) (fun _ => by first | rfl | (simp [ownsOf, ownsOf.ownsL, enc, encV, encS])) fun x hp => ?_
  obtain ⟨⟨⟨(a : Int), (b : Int)⟩, (c : Int)⟩, ⟨⟨(x : Int), (y : Int)⟩, (z : Int)⟩, _⟩ := x
  clear hp
  have htree : exFunc Tryz.prog C_Fa_1 false noL Tryz.f106 (encA [.s tTempo, .s tTempo] (((a, b), c), ((x, y), z), ())) = .ite (!decide (a = x ∧ b = y)) (.leaf [.lit false]) (.ite (c != z) (.leaf [.lit false]) (.leaf [.lit true])) := by kernel_rfl
  refine (congrArg (Tree.ok _) htree).mpr ?_
  clear htree
  simp only [Tree.ok, tyd_inj, packAV, AV.same, AV.same.sameL, encV, encS, enc, inK, Nd.ok, List.headD_cons, List.cons_append, List.nil_append, List.append_nil, true_and, and_true, Bool.true_and, Bool.and_true, Prod.mk.injEq]
  grind
def C_Fa_2 : FuncId → Option Ct := addC 106 ct_eqTempo C_Fa_1
theorem C_Fa_2_ok : COk Tryz.prog C_Fa_2 := addC_ok C_Fa_1_ok sat_eqTempo
def ann_eqTempoS_0 : LAnn := { sameS := [0, 1], modS := [4, 5], sameH := [], modH := [], base := 900000, nilE := [], nilB := [], G := fun
  | ⟨[.view (.pair (.pair (.int .i64) (.int .i64)) (.int .i64)) xs, .view (.pair (.pair (.int .i64) (.int .i64)) (.int .i64)) ys], [], [.bool r, .int .i64 i], []⟩ => some (.p ((0 ≤ i ∧ i ≤ (xs.length : Int)) ∧ xs.length = ys.length ∧ (xs.length : Int) ≤ 9223372036854775807), .ite (decide (xs.drop i.toNat = ys.drop i.toNat)) (.leaf (.exit 0) [.bool r, .int .i64 (xs.length : Int)] []) (.leaf .ret [.bool false, .unk] []))
  | _ => none }
def ct_eqTempoS : Ct := ctOf [.v qTempo, .v qTempo] (fun ((xs : List tTempo.den), (ys : List tTempo.den), _) => .p ((xs.length : Int) ≤ 9223372036854775807)) (fun ((xs : List tTempo.den), (ys : List tTempo.den), _) => .bool (decide (xs = ys)))
set_option maxHeartbeats 1000000 in
theorem loop_eqTempoS_0 : LoopSat Tryz.prog Tryz.f51.ntmps (loopAt Tryz.f51 0) ann_eqTempoS_0 := by
  refine loopSat_of (C := C_Fa_2) (L := (addL (firstId (loopAt Tryz.f51 0)) ann_eqTempoS_0 noL)) (wr := false) mixedOk C_Fa_2_ok (loopsIn0 (by kernel_rfl)) (fun d => match d.same, d.vals with | [.view _ xs, _], [_, .int _ i] => ((xs.length : Int) - i).toNat | _, _ => 0) fun d p t hG hp => ?_
  simp only [ann_eqTempoS_0] at hG
  split at hG
  rotate_left
  · simp at hG
  rename_i xs ys r i
  simp only [Option.some.injEq, Prod.mk.injEq] at hG
  obtain ⟨rfl, rfl⟩ := hG
  have htree : exRound Tryz.prog C_Fa_2 false (addL (firstId (loopAt Tryz.f51 0)) ann_eqTempoS_0 noL) Tryz.f51.ntmps ann_eqTempoS_0 (loopAt Tryz.f51 0) ⟨[.view tTempo xs, .view tTempo ys], [], [.bool r, .int .i64 i], []⟩ = .ite (decide (i < (↑xs.length : Int))) (.need ((0 : Int) ≤ i ∧ i < (↑xs.length : Int)) (.need ((0 : Int) ≤ i ∧ i < (↑ys.length : Int)) (.ite (!decide ((((getT tTempo xs i).fst.fst, (getT tTempo xs i).fst.snd), (getT tTempo xs i).snd) = (((getT tTempo ys i).fst.fst, (getT tTempo ys i).fst.snd), (getT tTempo ys i).snd))) (.leaf (.ret, ⟨[.view (tFrac.pair I64) (xs), .view (tFrac.pair I64) (ys)], [], [.bool (false), .int .i64 (i)], []⟩)) (.need (inK IntKind.i64 (i + (1 : Int))) (.leaf (.normal, ⟨[.view (tFrac.pair I64) (xs), .view (tFrac.pair I64) (ys)], [], [.bool (r), .int .i64 (i + (1 : Int))], []⟩)))))) (.leaf ((.exit 0), ⟨[.view (tFrac.pair I64) (xs), .view (tFrac.pair I64) (ys)], [], [.bool (r), .int .i64 (i)], []⟩)) := by kernel_rfl
  rw [htree]
  clear htree
  replace hp : (0 ≤ i ∧ i ≤ (xs.length : Int)) ∧ xs.length = ys.length ∧ (xs.length : Int) ≤ 9223372036854775807 := hp
  simp only [Tree.ok, tyd_inj, packAV, AV.same, AV.same.sameL, encV, encS, enc, inK, Nd.ok, List.headD_cons, List.cons_append, List.nil_append, List.append_nil, true_and, and_true, Bool.true_and, Bool.and_true, loop_next, weakBs_nil, weakBs_cons, weakB_self, weakB_row, weakB_int, weakL_nil, weakL_unk, weakL_guess, isRow_own, isRow_unk, weakL_int, weakL_bool, weakL_str, weakL_own, weakL_view, weakL_nilS, noRow_int, noRow_bool, own_inj, LTree.val, cond_true, cond_false, Prod.mk.injEq, List.cons.injEq, AV.int.injEq, AV.bool.injEq, AV.str.injEq, AV.agg.injEq, ann_eqTempoS_0, decide_eq_true_eq, decide_eq_false_iff_not, bne_iff_ne, ne_eq, bne_eq_false_iff_eq, getT]
  refine ⟨fun ha => ?_, fun ha => ?_⟩
  · have h1 := drop_eq_iff xs ys i.toNat tTempo.zero (by omega) (by omega)
    simp only [Prod.ext_iff] at h1
    rw [show (i + 1).toNat = i.toNat + 1 by omega]
    repeat' first | apply And.intro | intro _
    all_goals first
      | omega
      | (rw [decide_eq_false (show ¬ (xs.drop i.toNat = ys.drop i.toNat) by grind)]; simp [Tree.ok, tyd_inj, packAV, AV.same, AV.same.sameL, encV, encS, enc, inK, Nd.ok, List.headD_cons, List.cons_append, List.nil_append, List.append_nil, true_and, and_true, Bool.true_and, Bool.and_true, loop_next, weakBs_nil, weakBs_cons, weakB_self, weakB_row, weakB_int, weakL_nil, weakL_unk, weakL_guess, isRow_own, isRow_unk, weakL_int, weakL_bool, weakL_str, weakL_own, weakL_view, weakL_nilS, noRow_int, noRow_bool, own_inj, LTree.val, cond_true, cond_false, Prod.mk.injEq, List.cons.injEq, AV.int.injEq, AV.bool.injEq, AV.str.injEq, AV.agg.injEq]; done)
      | rw [show decide (xs.drop i.toNat = ys.drop i.toNat) = decide (xs.drop (i.toNat + 1) = ys.drop (i.toNat + 1)) by grind]
  · have h1 : i.toNat = xs.length := by omega
    have h2 : xs.length = ys.length := by omega
    rw [h1, decide_eq_true (show xs.drop xs.length = ys.drop xs.length by rw [List.drop_length, h2, List.drop_length])]
    simp [Tree.ok, tyd_inj, packAV, AV.same, AV.same.sameL, encV, encS, enc, inK, Nd.ok, List.headD_cons, List.cons_append, List.nil_append, List.append_nil, true_and, and_true, Bool.true_and, Bool.and_true, loop_next, weakBs_nil, weakBs_cons, weakB_self, weakB_row, weakB_int, weakL_nil, weakL_unk, weakL_guess, isRow_own, isRow_unk, weakL_int, weakL_bool, weakL_str, weakL_own, weakL_view, weakL_nilS, noRow_int, noRow_bool, own_inj, LTree.val, cond_true, cond_false, Prod.mk.injEq, List.cons.injEq, AV.int.injEq, AV.bool.injEq, AV.str.injEq, AV.agg.injEq]
    omega
theorem loops_eqTempoS : ∀ c, Tryz.f51.body = some c → LoopsOk Tryz.prog (addL (firstId (loopAt Tryz.f51 0)) ann_eqTempoS_0 noL) Tryz.f51.ntmps c := loopsN fun i hi ann h => by
  have hn : loopN Tryz.f51 = 1 := by kernel_rfl
  rw [hn] at hi
  exact match i, hi, h with
    | 0, _, h => (Option.some.inj ((show (addL (firstId (loopAt Tryz.f51 0)) ann_eqTempoS_0 noL) (firstId (loopAt Tryz.f51 0)) = some ann_eqTempoS_0 from by kernel_rfl).symm.trans h)) ▸ loop_eqTempoS_0
set_option maxHeartbeats 1000000 in
theorem sat_eqTempoS : Sat Tryz.prog 51 ct_eqTempoS := by
  refine sat_typed (C := C_Fa_2) (L := (addL (firstId (loopAt Tryz.f51 0)) ann_eqTempoS_0 noL)) (wr := false) mixedOk Tryz.func51 C_Fa_2_ok (loops_eqTempoS) (fun _ => by first | rfl | (simp [ownsOf, ownsOf.ownsL, enc, encV, encS])) fun x hp => ?_
  obtain ⟨(xs : List tTempo.den), (ys : List tTempo.den), _⟩ := x
  replace hp : (xs.length : Int) ≤ 9223372036854775807 := hp
  have htree : exFunc Tryz.prog C_Fa_2 false (addL (firstId (loopAt Tryz.f51 0)) ann_eqTempoS_0 noL) Tryz.f51 (encA [.v qTempo, .v qTempo] (xs, ys, ())) = .ite ((↑xs.length : Int) != (↑ys.length : Int)) (.leaf [.lit false]) (.need (((0 : Int) ≤ (0 : Int) ∧ (0 : Int) ≤ (↑xs.length : Int)) ∧ xs.length = ys.length ∧ (↑xs.length : Int) ≤ (9223372036854775807 : Int)) (.ite (decide (List.drop (Int.toNat (0 : Int)) xs = List.drop (Int.toNat (0 : Int)) ys)) (.leaf [.lit true]) (.leaf [.bool (false)]))) := by kernel_rfl
  refine (congrArg (Tree.ok _) htree).mpr ?_
  clear htree
  simp only [Tree.ok, tyd_inj, packAV, AV.same, AV.same.sameL, encV, encS, enc, inK, Nd.ok, List.headD_cons, List.cons_append, List.nil_append, List.append_nil, true_and, and_true, Bool.true_and, Bool.and_true, Int.toNat_zero, List.drop_zero, decide_eq_true_eq, decide_eq_false_iff_not, bne_iff_ne, ne_eq, bne_eq_false_iff_eq]
  repeat' first | apply And.intro | intro _
  all_goals grind
def C_Fa_3 : FuncId → Option Ct := addC 51 ct_eqTempoS C_Fa_2
theorem C_Fa_3_ok : COk Tryz.prog C_Fa_3 := addC_ok C_Fa_2_ok sat_eqTempoS
def ct_eqTempoMap : Ct := ctOf [.s qTempo, .s qTempo] (fun ((xs : List tTempo.den), (ys : List tTempo.den), _) => .p ((xs.length : Int) ≤ 9223372036854775807)) (fun ((xs : List tTempo.den), (ys : List tTempo.den), _) => .bool (decide (xs = ys)))
set_option maxHeartbeats 1000000 in
theorem sat_eqTempoMap : Sat Tryz.prog 9 ct_eqTempoMap := by
  refine sat_typed (C := C_Fa_3) (L := noL) (wr := false) mixedOk Tryz.func9 C_Fa_3_ok (loops0 (by kernel_rfl)) (fun _ => by first | rfl | (simp [ownsOf, ownsOf.ownsL, enc, encV, encS])) fun x hp => ?_
  obtain ⟨(xs : List tTempo.den), (ys : List tTempo.den), _⟩ := x
  replace hp : (xs.length : Int) ≤ 9223372036854775807 := hp
  have htree : exFunc Tryz.prog C_Fa_3 false noL Tryz.f9 (encA [.s qTempo, .s qTempo] (xs, ys, ())) = .need ((↑xs.length : Int) ≤ (9223372036854775807 : Int)) (.ite (!decide (xs = ys)) (.leaf [.lit false]) (.leaf [.lit true])) := by kernel_rfl
  refine (congrArg (Tree.ok _) htree).mpr ?_
  clear htree
  simp only [Tree.ok, tyd_inj, packAV, AV.same, AV.same.sameL, encV, encS, enc, inK, Nd.ok, List.headD_cons, List.cons_append, List.nil_append, List.append_nil, true_and, and_true, Bool.true_and, Bool.and_true]
  grind
def C_Fa_4 : FuncId → Option Ct := addC 9 ct_eqTempoMap C_Fa_3
theorem C_Fa_4_ok : COk Tryz.prog C_Fa_4 := addC_ok C_Fa_3_ok sat_eqTempoMap
def ann_sSameTempos_0 : LAnn := { sameS := [2, 3], modS := [4, 5], sameH := [2, 3], modH := [], base := 900000, nilE := [], nilB := [], G := fun
  | ⟨[.ptr 2 0, .ptr 3 0], [.box [.view (.pair (.pair (.int .i64) (.int .i64)) (.int .i64)) xs], .box [.view (.pair (.pair (.int .i64) (.int .i64)) (.int .i64)) ys]], [.bool r, .int .i64 i], []⟩ => some (.p ((0 ≤ i ∧ i ≤ (xs.length : Int)) ∧ xs.length = ys.length ∧ (xs.length : Int) ≤ 9223372036854775807), .ite (decide (xs.drop i.toNat = ys.drop i.toNat)) (.leaf (.exit 0) [.bool r, .int .i64 (xs.length : Int)] []) (.leaf .ret [.bool false, .unk] []))
  | _ => none }
def ct_sSameTempos : Ct := ctOf [.s qTempo, .s qTempo] (fun ((xs : List tTempo.den), (ys : List tTempo.den), _) => .p ((xs.length : Int) ≤ 9223372036854775807)) (fun ((xs : List tTempo.den), (ys : List tTempo.den), _) => .bool (decide (xs = ys)))
set_option maxHeartbeats 1000000 in
theorem loop_sSameTempos_0 : LoopSat Tryz.prog Tryz.f20.ntmps (loopAt Tryz.f20 0) ann_sSameTempos_0 := by
  refine loopSat_of (C := C_Fa_4) (L := (addL (firstId (loopAt Tryz.f20 0)) ann_sSameTempos_0 noL)) (wr := false) mixedOk C_Fa_4_ok (loopsIn0 (by kernel_rfl)) (fun d => match d.blk, d.vals with | [.box [.view _ xs], _], [_, .int _ i] => ((xs.length : Int) - i).toNat | _, _ => 0) fun d p t hG hp => ?_
  simp only [ann_sSameTempos_0] at hG
  split at hG
  rotate_left
  · simp at hG
  rename_i xs ys r i
  simp only [Option.some.injEq, Prod.mk.injEq] at hG
  obtain ⟨rfl, rfl⟩ := hG
  have htree : exRound Tryz.prog C_Fa_4 false (addL (firstId (loopAt Tryz.f20 0)) ann_sSameTempos_0 noL) Tryz.f20.ntmps ann_sSameTempos_0 (loopAt Tryz.f20 0) ⟨[.ptr 2 0, .ptr 3 0], [.box [.view tTempo xs], .box [.view tTempo ys]], [.bool r, .int .i64 i], []⟩ = .ite (decide (i < (↑xs.length : Int))) (.need ((0 : Int) ≤ i ∧ i < (↑xs.length : Int)) (.need ((0 : Int) ≤ i ∧ i < (↑ys.length : Int)) (.ite (!((getT tTempo xs i).fst.fst == (getT tTempo ys i).fst.fst && (getT tTempo xs i).fst.snd == (getT tTempo ys i).fst.snd && (getT tTempo xs i).snd == (getT tTempo ys i).snd)) (.leaf (.ret, ⟨[.ptr 2 0, .ptr 3 0], [.box [.view (tFrac.pair I64) (xs)], .box [.view (tFrac.pair I64) (ys)]], [.bool (false), .int .i64 (i)], []⟩)) (.need (inK IntKind.i64 (i + (1 : Int))) (.leaf (.normal, ⟨[.ptr 2 0, .ptr 3 0], [.box [.view (tFrac.pair I64) (xs)], .box [.view (tFrac.pair I64) (ys)]], [.bool (r), .int .i64 (i + (1 : Int))], []⟩)))))) (.leaf ((.exit 0), ⟨[.ptr 2 0, .ptr 3 0], [.box [.view (tFrac.pair I64) (xs)], .box [.view (tFrac.pair I64) (ys)]], [.bool (r), .int .i64 (i)], []⟩)) := by kernel_rfl
  rw [htree]
  clear htree
  replace hp : (0 ≤ i ∧ i ≤ (xs.length : Int)) ∧ xs.length = ys.length ∧ (xs.length : Int) ≤ 9223372036854775807 := hp
  simp only [Tree.ok, tyd_inj, packAV, AV.same, AV.same.sameL, encV, encS, enc, inK, Nd.ok, List.headD_cons, List.cons_append, List.nil_append, List.append_nil, true_and, and_true, Bool.true_and, Bool.and_true, loop_next, weakBs_nil, weakBs_cons, weakB_self, weakB_row, weakB_int, weakL_nil, weakL_unk, weakL_guess, isRow_own, isRow_unk, weakL_int, weakL_bool, weakL_str, weakL_own, weakL_view, weakL_nilS, noRow_int, noRow_bool, own_inj, LTree.val, cond_true, cond_false, Prod.mk.injEq, List.cons.injEq, AV.int.injEq, AV.bool.injEq, AV.str.injEq, AV.agg.injEq, ann_sSameTempos_0, decide_eq_true_eq, decide_eq_false_iff_not, bne_iff_ne, ne_eq, bne_eq_false_iff_eq, getT]
  refine ⟨fun ha => ?_, fun ha => ?_⟩
  · have h1 := drop_eq_iff xs ys i.toNat tTempo.zero (by omega) (by omega)
    simp only [Prod.ext_iff] at h1
    rw [show (i + 1).toNat = i.toNat + 1 by omega]
    repeat' first | apply And.intro | intro _
    all_goals first
      | omega
      | (rw [decide_eq_false (show ¬ (xs.drop i.toNat = ys.drop i.toNat) by grind)]; simp [Tree.ok, tyd_inj, packAV, AV.same, AV.same.sameL, encV, encS, enc, inK, Nd.ok, List.headD_cons, List.cons_append, List.nil_append, List.append_nil, true_and, and_true, Bool.true_and, Bool.and_true, loop_next, weakBs_nil, weakBs_cons, weakB_self, weakB_row, weakB_int, weakL_nil, weakL_unk, weakL_guess, isRow_own, isRow_unk, weakL_int, weakL_bool, weakL_str, weakL_own, weakL_view, weakL_nilS, noRow_int, noRow_bool, own_inj, LTree.val, cond_true, cond_false, Prod.mk.injEq, List.cons.injEq, AV.int.injEq, AV.bool.injEq, AV.str.injEq, AV.agg.injEq]; done)
      | rw [show decide (xs.drop i.toNat = ys.drop i.toNat) = decide (xs.drop (i.toNat + 1) = ys.drop (i.toNat + 1)) by grind]
  · have h1 : i.toNat = xs.length := by omega
    have h2 : xs.length = ys.length := by omega
    rw [h1, decide_eq_true (show xs.drop xs.length = ys.drop xs.length by rw [List.drop_length, h2, List.drop_length])]
    simp [Tree.ok, tyd_inj, packAV, AV.same, AV.same.sameL, encV, encS, enc, inK, Nd.ok, List.headD_cons, List.cons_append, List.nil_append, List.append_nil, true_and, and_true, Bool.true_and, Bool.and_true, loop_next, weakBs_nil, weakBs_cons, weakB_self, weakB_row, weakB_int, weakL_nil, weakL_unk, weakL_guess, isRow_own, isRow_unk, weakL_int, weakL_bool, weakL_str, weakL_own, weakL_view, weakL_nilS, noRow_int, noRow_bool, own_inj, LTree.val, cond_true, cond_false, Prod.mk.injEq, List.cons.injEq, AV.int.injEq, AV.bool.injEq, AV.str.injEq, AV.agg.injEq]
    omega
theorem loops_sSameTempos : ∀ c, Tryz.f20.body = some c → LoopsOk Tryz.prog (addL (firstId (loopAt Tryz.f20 0)) ann_sSameTempos_0 noL) Tryz.f20.ntmps c := loopsN fun i hi ann h => by
  have hn : loopN Tryz.f20 = 1 := by kernel_rfl
  rw [hn] at hi
  exact match i, hi, h with
    | 0, _, h => (Option.some.inj ((show (addL (firstId (loopAt Tryz.f20 0)) ann_sSameTempos_0 noL) (firstId (loopAt Tryz.f20 0)) = some ann_sSameTempos_0 from by kernel_rfl).symm.trans h)) ▸ loop_sSameTempos_0
set_option maxHeartbeats 1000000 in
theorem sat_sSameTempos : Sat Tryz.prog 20 ct_sSameTempos := by
  refine sat_typed (C := C_Fa_4) (L := (addL (firstId (loopAt Tryz.f20 0)) ann_sSameTempos_0 noL)) (wr := false) mixedOk Tryz.func20 C_Fa_4_ok (loops_sSameTempos) (fun _ => by first | rfl | (simp [ownsOf, ownsOf.ownsL, enc, encV, encS])) fun x hp => ?_
  obtain ⟨(xs : List tTempo.den), (ys : List tTempo.den), _⟩ := x
  replace hp : (xs.length : Int) ≤ 9223372036854775807 := hp
  have htree : exFunc Tryz.prog C_Fa_4 false (addL (firstId (loopAt Tryz.f20 0)) ann_sSameTempos_0 noL) Tryz.f20 (encA [.s qTempo, .s qTempo] (xs, ys, ())) = .ite ((↑xs.length : Int) != (↑ys.length : Int)) (.leaf [.lit false]) (.need (((0 : Int) ≤ (0 : Int) ∧ (0 : Int) ≤ (↑xs.length : Int)) ∧ xs.length = ys.length ∧ (↑xs.length : Int) ≤ (9223372036854775807 : Int)) (.ite (decide (List.drop (Int.toNat (0 : Int)) xs = List.drop (Int.toNat (0 : Int)) ys)) (.leaf [.lit true]) (.leaf [.bool (false)]))) := by kernel_rfl
  refine (congrArg (Tree.ok _) htree).mpr ?_
  clear htree
  simp only [Tree.ok, tyd_inj, packAV, AV.same, AV.same.sameL, encV, encS, enc, inK, Nd.ok, List.headD_cons, List.cons_append, List.nil_append, List.append_nil, true_and, and_true, Bool.true_and, Bool.and_true, Int.toNat_zero, List.drop_zero, decide_eq_true_eq, decide_eq_false_iff_not, bne_iff_ne, ne_eq, bne_eq_false_iff_eq]
  repeat' first | apply And.intro | intro _
  all_goals grind
def C_Fa_5 : FuncId → Option Ct := addC 20 ct_sSameTempos C_Fa_4
theorem C_Fa_5_ok : COk Tryz.prog C_Fa_5 := addC_ok C_Fa_4_ok sat_sSameTempos

def C_Fa : FuncId → Option Ct := C_Fa_5
theorem C_Fa_ok : COk Tryz.prog C_Fa := C_Fa_5_ok
end Go.Proofs.YtkeckmdmmbeaiaaGreatDoor
