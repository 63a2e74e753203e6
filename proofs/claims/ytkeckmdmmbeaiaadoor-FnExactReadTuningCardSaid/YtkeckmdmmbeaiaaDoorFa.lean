/- Contracts: tempo maps taken over, compared, counted. Conditions: ys each says. -/
import Derived.Test.YtkeckmdmmbeaiaaDoorSxP
set_option linter.unusedSimpArgs false
set_option linter.unusedVariables false
namespace Go.Proofs.YtkeckmdmmbeaiaaDoor
open Go.RowKit Sx
set_option maxRecDepth 100000
set_option maxHeartbeats 1000000
def ct_toFrac : Ct := ctOf [.s tFrac] (fun _ => .tt) (fun (((a : Int), (b : Int)), _) => .agg (enc tFrac (a, b)))
set_option maxHeartbeats 1000000 in
theorem sat_toFrac : Sat Tryd.prog 65 ct_toFrac := by
  refine sat_typed (C := noC) (L := noL) (wr := false) mixedOk Tryd.func65 (noC_ok Tryd.prog) (loops0 (by kernel_rfl)) (fun _ => by first | rfl | (simp [ownsOf, ownsOf.ownsL, enc, encV, encS])) fun x hp => ?_
  obtain ⟨⟨(a : Int), (b : Int)⟩, _⟩ := x
  clear hp
  have htree : exFunc Tryd.prog noC false noL Tryd.f65 (encA [.s tFrac] ((a, b), ())) = .leaf [.agg [.int .i64 (a), .int .i64 (b)]] := by kernel_rfl
  refine (congrArg (Tree.ok _) htree).mpr ?_
  clear htree
  simp [Tree.ok, tyd_inj, packAV, AV.same, AV.same.sameL, encV, encS, enc, inK, Nd.ok, List.headD_cons, List.cons_append, List.nil_append, List.append_nil, true_and, and_true, Bool.true_and, Bool.and_true]
def C_Fa_1 : FuncId → Option Ct := addC 65 ct_toFrac noC
theorem C_Fa_1_ok : COk Tryd.prog C_Fa_1 := addC_ok (noC_ok Tryd.prog) sat_toFrac
def ct_eqFrac : Ct := ctOf [.s tFrac, .s tFrac] (fun _ => .tt) (fun (((a : Int), (b : Int)), ((c : Int), (d : Int)), _) => .bool (decide (a = c ∧ b = d)))
set_option maxHeartbeats 1000000 in
theorem sat_eqFrac : Sat Tryd.prog 69 ct_eqFrac := by
  refine sat_typed (C := C_Fa_1) (L := noL) (wr := false) mixedOk Tryd.func69 C_Fa_1_ok (loops0 (by kernel_rfl)) (fun _ => by first | rfl | (simp [ownsOf, ownsOf.ownsL, enc, encV, encS])) fun x hp => ?_
  obtain ⟨⟨(a : Int), (b : Int)⟩, ⟨(c : Int), (d : Int)⟩, _⟩ := x
  clear hp
  have htree : exFunc Tryd.prog C_Fa_1 false noL Tryd.f69 (encA [.s tFrac, .s tFrac] ((a, b), (c, d), ())) = .ite (a != c) (.leaf [.lit false]) (.ite (b != d) (.leaf [.lit false]) (.leaf [.lit true])) := by kernel_rfl
  refine (congrArg (Tree.ok _) htree).mpr ?_
  clear htree
  simp only [Tree.ok, tyd_inj, packAV, AV.same, AV.same.sameL, encV, encS, enc, inK, Nd.ok, List.headD_cons, List.cons_append, List.nil_append, List.append_nil, true_and, and_true, Bool.true_and, Bool.and_true]
  grind
def C_Fa_2 : FuncId → Option Ct := addC 69 ct_eqFrac C_Fa_1
theorem C_Fa_2_ok : COk Tryd.prog C_Fa_2 := addC_ok C_Fa_1_ok sat_eqFrac
def ct_eqTempo : Ct := ctOf [.s tTempo, .s tTempo] (fun _ => .tt) (fun ((((a : Int), (b : Int)), (c : Int)), (((x : Int), (y : Int)), (z : Int)), _) => .bool (decide ((((a, b), c) : tTempo.den) = ((x, y), z))))
set_option maxHeartbeats 1000000 in
theorem sat_eqTempo : Sat Tryd.prog 127 ct_eqTempo := by
  refine sat_typed (C := C_Fa_2) (L := noL) (wr := false) mixedOk Tryd.func127 C_Fa_2_ok (loops0 (by kernel_rfl)) (fun _ => by first | rfl | (simp [ownsOf, ownsOf.ownsL, enc, encV, encS])) fun x hp => ?_
  obtain ⟨⟨⟨(a : Int), (b : Int)⟩, (c : Int)⟩, ⟨⟨(x : Int), (y : Int)⟩, (z : Int)⟩, _⟩ := x
  clear hp
  have htree : exFunc Tryd.prog C_Fa_2 false noL Tryd.f127 (encA [.s tTempo, .s tTempo] (((a, b), c), ((x, y), z), ())) = .ite (!decide (a = x ∧ b = y)) (.leaf [.lit false]) (.ite (c != z) (.leaf [.lit false]) (.leaf [.lit true])) := by kernel_rfl
  refine (congrArg (Tree.ok _) htree).mpr ?_
  clear htree
  simp only [Tree.ok, tyd_inj, packAV, AV.same, AV.same.sameL, encV, encS, enc, inK, Nd.ok, List.headD_cons, List.cons_append, List.nil_append, List.append_nil, true_and, and_true, Bool.true_and, Bool.and_true, Prod.mk.injEq]
  grind
def C_Fa_3 : FuncId → Option Ct := addC 127 ct_eqTempo C_Fa_2
theorem C_Fa_3_ok : COk Tryd.prog C_Fa_3 := addC_ok C_Fa_2_ok sat_eqTempo
def ct_toTempo : Ct := ctOf [.s tTempo] (fun _ => .tt) (fun ((((a : Int), (b : Int)), (c : Int)), _) => .agg (enc tTempo ((a, b), c)))
set_option maxHeartbeats 1000000 in
theorem sat_toTempo : Sat Tryd.prog 120 ct_toTempo := by
  refine sat_typed (C := C_Fa_3) (L := noL) (wr := false) mixedOk Tryd.func120 C_Fa_3_ok (loops0 (by kernel_rfl)) (fun _ => by first | rfl | (simp [ownsOf, ownsOf.ownsL, enc, encV, encS])) fun x hp => ?_
  obtain ⟨⟨⟨(a : Int), (b : Int)⟩, (c : Int)⟩, _⟩ := x
  clear hp
  have htree : exFunc Tryd.prog C_Fa_3 false noL Tryd.f120 (encA [.s tTempo] (((a, b), c), ())) = .leaf [.agg [.int .i64 (a), .int .i64 (b), .int .i64 (c)]] := by kernel_rfl
  refine (congrArg (Tree.ok _) htree).mpr ?_
  clear htree
  simp [Tree.ok, tyd_inj, packAV, AV.same, AV.same.sameL, encV, encS, enc, inK, Nd.ok, List.headD_cons, List.cons_append, List.nil_append, List.append_nil, true_and, and_true, Bool.true_and, Bool.and_true]
def C_Fa_4 : FuncId → Option Ct := addC 120 ct_toTempo C_Fa_3
theorem C_Fa_4_ok : COk Tryd.prog C_Fa_4 := addC_ok C_Fa_3_ok sat_toTempo
def ann_toTempoS_0 : LAnn := { sameS := [0], modS := [3, 4], sameH := [], modH := [], base := 900000, nilE := [], nilB := [], G := fun
  | ⟨[.view (.pair (.pair (.int .i64) (.int .i64)) (.int .i64)) ys], [], [.own (.pair (.pair (.int .i64) (.int .i64)) (.int .i64)) xs, .int .i64 i], []⟩ => some (.p ((0 ≤ i ∧ i ≤ (ys.length : Int)) ∧ xs.length = ys.length ∧ ys.length ≤ 16777216), .leaf (.exit 0) [.own tTempo (xs.take i.toNat ++ ys.drop i.toNat), .int .i64 (ys.length : Int)] [])
  | _ => none }
def ct_toTempoS : Ct := ctOf [.v qTempo] (fun ((ys : List tTempo.den), _) => .p (ys.length ≤ 16777216)) (fun ((ys : List tTempo.den), _) => .own tTempo ys)
set_option maxHeartbeats 1000000 in
theorem loop_toTempoS_0 : LoopSat Tryd.prog Tryd.f74.ntmps (loopAt Tryd.f74 0) ann_toTempoS_0 := by
  refine loopSat_of (C := C_Fa_4) (L := (addL (firstId (loopAt Tryd.f74 0)) ann_toTempoS_0 noL)) (wr := false) mixedOk C_Fa_4_ok (loopsIn0 (by kernel_rfl)) (fun d => match d.same, d.vals with | [.view _ ys], [_, .int _ i] => ((ys.length : Int) - i).toNat | _, _ => 0) fun d p t hG hp => ?_
  simp only [ann_toTempoS_0] at hG
  split at hG
  rotate_left
  · simp at hG
  rename_i ys xs i
  simp only [Option.some.injEq, Prod.mk.injEq] at hG
  obtain ⟨rfl, rfl⟩ := hG
  have htree : exRound Tryd.prog C_Fa_4 false (addL (firstId (loopAt Tryd.f74 0)) ann_toTempoS_0 noL) Tryd.f74.ntmps ann_toTempoS_0 (loopAt Tryd.f74 0) ⟨[.view tTempo ys], [], [.own tTempo xs, .int .i64 i], []⟩ = .ite (decide (i < (↑ys.length : Int))) (.need ((0 : Int) ≤ i ∧ i < (↑ys.length : Int)) (.need ((0 : Int) ≤ i ∧ i < (↑xs.length : Int)) (.need (i.toNat < xs.length) (.need (inK IntKind.i64 (i + (1 : Int))) (.leaf (.normal, ⟨[.view (tFrac.pair I64) (ys)], [], [.own (tFrac.pair I64) (xs.set i.toNat (((getT tTempo ys i).fst.fst, (getT tTempo ys i).fst.snd), (getT tTempo ys i).snd)), .int .i64 (i + (1 : Int))], []⟩)))))) (.leaf ((.exit 0), ⟨[.view (tFrac.pair I64) (ys)], [], [.own (tFrac.pair I64) (xs), .int .i64 (i)], []⟩)) := by kernel_rfl
  rw [htree]
  clear htree
  replace hp : (0 ≤ i ∧ i ≤ (ys.length : Int)) ∧ xs.length = ys.length ∧ ys.length ≤ 16777216 := hp
  simp only [Tree.ok, tyd_inj, packAV, AV.same, AV.same.sameL, encV, encS, enc, inK, Nd.ok, List.headD_cons, List.cons_append, List.nil_append, List.append_nil, true_and, and_true, Bool.true_and, Bool.and_true, loop_next, weakBs_nil, weakBs_cons, weakB_self, weakB_row, weakB_int, weakL_nil, weakL_unk, weakL_guess, isRow_own, isRow_unk, weakL_int, weakL_bool, weakL_str, weakL_own, weakL_view, weakL_nilS, noRow_int, noRow_bool, own_inj, LTree.val, cond_true, cond_false, Prod.mk.injEq, List.cons.injEq, AV.int.injEq, AV.bool.injEq, AV.str.injEq, AV.agg.injEq, ann_toTempoS_0, decide_eq_true_eq, decide_eq_false_iff_not]
  refine ⟨fun ha => ?_, fun ha => ?_⟩
  · have h1 := set_front xs ys i.toNat tTempo.zero (by omega) hp.2.1
    refine ⟨by omega, by omega, by omega, by omega, by omega, ⟨by omega, by rw [List.length_set]; exact hp.2.1, hp.2.2⟩, ?_⟩
    rw [show (i + 1).toNat = i.toNat + 1 by omega]
    exact h1
  · have h1 : i.toNat = ys.length := by omega
    rw [h1]
    exact ⟨by simp [List.take_of_length_le (show xs.length ≤ ys.length by omega)], by omega⟩
theorem loops_toTempoS : ∀ c, Tryd.f74.body = some c → LoopsOk Tryd.prog (addL (firstId (loopAt Tryd.f74 0)) ann_toTempoS_0 noL) Tryd.f74.ntmps c := loopsN fun i hi ann h => by
  have hn : loopN Tryd.f74 = 1 := by kernel_rfl
  rw [hn] at hi
  exact match i, hi, h with
    | 0, _, h => (Option.some.inj ((show (addL (firstId (loopAt Tryd.f74 0)) ann_toTempoS_0 noL) (firstId (loopAt Tryd.f74 0)) = some ann_toTempoS_0 from by kernel_rfl).symm.trans h)) ▸ loop_toTempoS_0
set_option maxHeartbeats 1000000 in
theorem sat_toTempoS : Sat Tryd.prog 74 ct_toTempoS := by
  refine sat_typed (C := C_Fa_4) (L := (addL (firstId (loopAt Tryd.f74 0)) ann_toTempoS_0 noL)) (wr := false) mixedOk Tryd.func74 C_Fa_4_ok (loops_toTempoS) (fun _ => by first | rfl | (simp [ownsOf, ownsOf.ownsL, enc, encV, encS])) fun x hp => ?_
  obtain ⟨(ys : List tTempo.den), _⟩ := x
  replace hp : ys.length ≤ 16777216 := hp
  have htree : exFunc Tryd.prog C_Fa_4 false (addL (firstId (loopAt Tryd.f74 0)) ann_toTempoS_0 noL) Tryd.f74 (encA [.v qTempo] (ys, ())) = .need ((0 : Int) ≤ (↑ys.length : Int) ∧ (↑ys.length : Int) ≤ (↑ys.length : Int) ∧ (↑ys.length : Int) ≤ (16777216 : Int)) (.need (((0 : Int) ≤ (0 : Int) ∧ (0 : Int) ≤ (↑ys.length : Int)) ∧ (List.replicate (↑ys.length : Int).toNat (((0 : Int), (0 : Int)), (0 : Int))).length = ys.length ∧ ys.length ≤ (16777216 : Nat)) (.leaf [.own (tFrac.pair I64) (List.take (Int.toNat (0 : Int)) (List.replicate (↑ys.length : Int).toNat (((0 : Int), (0 : Int)), (0 : Int))) ++ List.drop (Int.toNat (0 : Int)) ys)])) := by kernel_rfl
  refine (congrArg (Tree.ok _) htree).mpr ?_
  clear htree
  simp [Tree.ok, tyd_inj, packAV, AV.same, AV.same.sameL, encV, encS, enc, inK, Nd.ok, List.headD_cons, List.cons_append, List.nil_append, List.append_nil, true_and, and_true, Bool.true_and, Bool.and_true]
  omega
def C_Fa_5 : FuncId → Option Ct := addC 74 ct_toTempoS C_Fa_4
theorem C_Fa_5_ok : COk Tryd.prog C_Fa_5 := addC_ok C_Fa_4_ok sat_toTempoS
def ct_toTempoMap : Ct := ctOf [.s qTempo] (fun ((ys : List tTempo.den), _) => .p (ys.length ≤ 16777216)) (fun ((ys : List tTempo.den), _) => .agg [.own tTempo ys])
set_option maxHeartbeats 1000000 in
theorem sat_toTempoMap : Sat Tryd.prog 25 ct_toTempoMap := by
  refine sat_typed (C := C_Fa_5) (L := noL) (wr := false) mixedOk Tryd.func25 C_Fa_5_ok (loops0 (by kernel_rfl)) (fun _ => by first | rfl | (simp [ownsOf, ownsOf.ownsL, enc, encV, encS])) fun x hp => ?_
  obtain ⟨(ys : List tTempo.den), _⟩ := x
  replace hp : ys.length ≤ 16777216 := hp
  have htree : exFunc Tryd.prog C_Fa_5 false noL Tryd.f25 (encA [.s qTempo] (ys, ())) = .need (ys.length ≤ (16777216 : Nat)) (.leaf [.agg [.own (tFrac.pair I64) (ys)]]) := by kernel_rfl
  refine (congrArg (Tree.ok _) htree).mpr ?_
  clear htree
  simp [Tree.ok, tyd_inj, packAV, AV.same, AV.same.sameL, encV, encS, enc, inK, Nd.ok, List.headD_cons, List.cons_append, List.nil_append, List.append_nil, true_and, and_true, Bool.true_and, Bool.and_true]
  omega
def C_Fa_6 : FuncId → Option Ct := addC 25 ct_toTempoMap C_Fa_5
theorem C_Fa_6_ok : COk Tryd.prog C_Fa_6 := addC_ok C_Fa_5_ok sat_toTempoMap
def ct_szTempoS : Ct := ctOf [.v qTempo, .v (.int .i64)] (fun ((ys : List tTempo.den), (n : Int), _) => .p ((0 ≤ n ∧ n ≤ 1048576) ∧ (ys.length : Int) ≤ 9223372036854775807)) (fun ((ys : List tTempo.den), (n : Int), _) => .int .i64 (if n - (ys.length : Int) < 0 then -1 else n - (ys.length : Int)))
set_option maxHeartbeats 1000000 in
theorem sat_szTempoS : Sat Tryd.prog 71 ct_szTempoS := by
  refine sat_typed (C := C_Fa_6) (L := noL) (wr := false) mixedOk Tryd.func71 C_Fa_6_ok (loops0 (by kernel_rfl)) (fun _ => by first | rfl | (simp [ownsOf, ownsOf.ownsL, enc, encV, encS])) fun x hp => ?_
  obtain ⟨(ys : List tTempo.den), (n : Int), _⟩ := x
  replace hp : (0 ≤ n ∧ n ≤ 1048576) ∧ (ys.length : Int) ≤ 9223372036854775807 := hp
  have htree : exFunc Tryd.prog C_Fa_6 false noL Tryd.f71 (encA [.v qTempo, .v (.int .i64)] (ys, n, ())) = .need (inK IntKind.i64 (n - (↑ys.length : Int))) (.ite (decide (n - (↑ys.length : Int) < (0 : Int))) (.leaf [.int .i64 ((-1 : Int))]) (.leaf [.int .i64 (n - (↑ys.length : Int))])) := by kernel_rfl
  refine (congrArg (Tree.ok _) htree).mpr ?_
  clear htree
  simp only [Tree.ok, tyd_inj, packAV, AV.same, AV.same.sameL, encV, encS, enc, inK, Nd.ok, List.headD_cons, List.cons_append, List.nil_append, List.append_nil, true_and, and_true, Bool.true_and, Bool.and_true]
  grind
def C_Fa_7 : FuncId → Option Ct := addC 71 ct_szTempoS C_Fa_6
theorem C_Fa_7_ok : COk Tryd.prog C_Fa_7 := addC_ok C_Fa_6_ok sat_szTempoS
def ct_szTempoMap : Ct := ctOf [.s qTempo, .v (.int .i64)] (fun ((ys : List tTempo.den), (n : Int), _) => .p ((0 ≤ n ∧ n ≤ 1048576) ∧ (ys.length : Int) ≤ 9223372036854775807)) (fun ((ys : List tTempo.den), (n : Int), _) => .int .i64 (if n - (ys.length : Int) < 0 then -1 else n - (ys.length : Int)))
set_option maxHeartbeats 1000000 in
theorem sat_szTempoMap : Sat Tryd.prog 23 ct_szTempoMap := by
  refine sat_typed (C := C_Fa_7) (L := noL) (wr := false) mixedOk Tryd.func23 C_Fa_7_ok (loops0 (by kernel_rfl)) (fun _ => by first | rfl | (simp [ownsOf, ownsOf.ownsL, enc, encV, encS])) fun x hp => ?_
  obtain ⟨(ys : List tTempo.den), (n : Int), _⟩ := x
  replace hp : (0 ≤ n ∧ n ≤ 1048576) ∧ (ys.length : Int) ≤ 9223372036854775807 := hp
  have htree : exFunc Tryd.prog C_Fa_7 false noL Tryd.f23 (encA [.s qTempo, .v (.int .i64)] (ys, n, ())) = .need (((0 : Int) ≤ n ∧ n ≤ (1048576 : Int)) ∧ (↑ys.length : Int) ≤ (9223372036854775807 : Int)) (.ite (decide ((if n - (↑ys.length : Int) < (0 : Int) then (-1 : Int) else n - (↑ys.length : Int)) < (0 : Int))) (.leaf [.int .i64 ((-1 : Int))]) (.leaf [.int .i64 (if n - (↑ys.length : Int) < (0 : Int) then (-1 : Int) else n - (↑ys.length : Int))])) := by kernel_rfl
  refine (congrArg (Tree.ok _) htree).mpr ?_
  clear htree
  simp only [Tree.ok, tyd_inj, packAV, AV.same, AV.same.sameL, encV, encS, enc, inK, Nd.ok, List.headD_cons, List.cons_append, List.nil_append, List.append_nil, true_and, and_true, Bool.true_and, Bool.and_true]
  grind
def C_Fa_8 : FuncId → Option Ct := addC 23 ct_szTempoMap C_Fa_7
theorem C_Fa_8_ok : COk Tryd.prog C_Fa_8 := addC_ok C_Fa_7_ok sat_szTempoMap
def ann_eqTempoS_0 : LAnn := { sameS := [0, 1], modS := [4, 5], sameH := [], modH := [], base := 900000, nilE := [], nilB := [], G := fun
  | ⟨[.view (.pair (.pair (.int .i64) (.int .i64)) (.int .i64)) xs, .view (.pair (.pair (.int .i64) (.int .i64)) (.int .i64)) ys], [], [.bool r, .int .i64 i], []⟩ => some (.p ((0 ≤ i ∧ i ≤ (xs.length : Int)) ∧ xs.length = ys.length ∧ (xs.length : Int) ≤ 9223372036854775807), .ite (decide (xs.drop i.toNat = ys.drop i.toNat)) (.leaf (.exit 0) [.bool r, .int .i64 (xs.length : Int)] []) (.leaf .ret [.bool false, .unk] []))
  | _ => none }
def ct_eqTempoS : Ct := ctOf [.v qTempo, .v qTempo] (fun ((xs : List tTempo.den), (ys : List tTempo.den), _) => .p ((xs.length : Int) ≤ 9223372036854775807)) (fun ((xs : List tTempo.den), (ys : List tTempo.den), _) => .bool (decide (xs = ys)))
set_option maxHeartbeats 1000000 in
theorem loop_eqTempoS_0 : LoopSat Tryd.prog Tryd.f77.ntmps (loopAt Tryd.f77 0) ann_eqTempoS_0 := by
  refine loopSat_of (C := C_Fa_8) (L := (addL (firstId (loopAt Tryd.f77 0)) ann_eqTempoS_0 noL)) (wr := false) mixedOk C_Fa_8_ok (loopsIn0 (by kernel_rfl)) (fun d => match d.same, d.vals with | [.view _ xs, _], [_, .int _ i] => ((xs.length : Int) - i).toNat | _, _ => 0) fun d p t hG hp => ?_
  simp only [ann_eqTempoS_0] at hG
  split at hG
  rotate_left
  · simp at hG
  rename_i xs ys r i
  simp only [Option.some.injEq, Prod.mk.injEq] at hG
  obtain ⟨rfl, rfl⟩ := hG
  have htree : exRound Tryd.prog C_Fa_8 false (addL (firstId (loopAt Tryd.f77 0)) ann_eqTempoS_0 noL) Tryd.f77.ntmps ann_eqTempoS_0 (loopAt Tryd.f77 0) ⟨[.view tTempo xs, .view tTempo ys], [], [.bool r, .int .i64 i], []⟩ = .ite (decide (i < (↑xs.length : Int))) (.need ((0 : Int) ≤ i ∧ i < (↑xs.length : Int)) (.need ((0 : Int) ≤ i ∧ i < (↑ys.length : Int)) (.ite (!decide ((((getT tTempo xs i).fst.fst, (getT tTempo xs i).fst.snd), (getT tTempo xs i).snd) = (((getT tTempo ys i).fst.fst, (getT tTempo ys i).fst.snd), (getT tTempo ys i).snd))) (.leaf (.ret, ⟨[.view (tFrac.pair I64) (xs), .view (tFrac.pair I64) (ys)], [], [.bool (false), .int .i64 (i)], []⟩)) (.need (inK IntKind.i64 (i + (1 : Int))) (.leaf (.normal, ⟨[.view (tFrac.pair I64) (xs), .view (tFrac.pair I64) (ys)], [], [.bool (r), .int .i64 (i + (1 : Int))], []⟩)))))) (.leaf ((.exit 0), ⟨[.view (tFrac.pair I64) (xs), .view (tFrac.pair I64) (ys)], [], [.bool (r), .int .i64 (i)], []⟩)) := by kernel_rfl
  rw [htree]
  clear htree
  replace hp : (0 ≤ i ∧ i ≤ (xs.length : Int)) ∧ xs.length = ys.length ∧ (xs.length : Int) ≤ 9223372036854775807 := hp
  simp only [Tree.ok, tyd_inj, packAV, AV.same, AV.same.sameL, encV, encS, enc, inK, Nd.ok, List.headD_cons, List.cons_append, List.nil_append, List.append_nil, true_and, and_true, Bool.true_and, Bool.and_true, loop_next, weakBs_nil, weakBs_cons, weakB_self, weakB_row, weakB_int, weakL_nil, weakL_unk, weakL_guess, isRow_own, isRow_unk, weakL_int, weakL_bool, weakL_str, weakL_own, weakL_view, weakL_nilS, noRow_int, noRow_bool, own_inj, LTree.val, cond_true, cond_false, Prod.mk.injEq, List.cons.injEq, AV.int.injEq, AV.bool.injEq, AV.str.injEq, AV.agg.injEq, ann_eqTempoS_0, decide_eq_true_eq, decide_eq_false_iff_not, bne_iff_ne, ne_eq, bne_eq_false_iff_eq, getT]
  refine ⟨fun ha => ?_, fun ha => ?_⟩
  · have h1 := drop_eq_iff xs ys i.toNat tTempo.zero (by omega) (by omega)
    simp only [Prod.ext_iff] at h1
    rw [show (i + 1).toNat = i.toNat + 1 by omega]
    repeat' first | apply And.intro | intro _
    all_goals first
      | omega
      | (rw [decide_eq_false (show ¬ (xs.drop i.toNat = ys.drop i.toNat) by grind)]; simp [Tree.ok, tyd_inj, packAV, AV.same, AV.same.sameL, encV, encS, enc, inK, Nd.ok, List.headD_cons, List.cons_append, List.nil_append, List.append_nil, true_and, and_true, Bool.true_and, Bool.and_true, loop_next, weakBs_nil, weakBs_cons, weakB_self, weakB_row, weakB_int, weakL_nil, weakL_unk, weakL_guess, isRow_own, isRow_unk, weakL_int, weakL_bool, weakL_str, weakL_own, weakL_view, weakL_nilS, noRow_int, noRow_bool, own_inj, LTree.val, cond_true, cond_false, Prod.mk.injEq, List.cons.injEq, AV.int.injEq, AV.bool.injEq, AV.str.injEq, AV.agg.injEq]; done)
      | rw [show decide (xs.drop i.toNat = ys.drop i.toNat) = decide (xs.drop (i.toNat + 1) = ys.drop (i.toNat + 1)) by grind]
  · have h1 : i.toNat = xs.length := by omega
    have h2 : xs.length = ys.length := by omega
    rw [h1, decide_eq_true (show xs.drop xs.length = ys.drop xs.length by rw [List.drop_length, h2, List.drop_length])]
    simp [Tree.ok, tyd_inj, packAV, AV.same, AV.same.sameL, encV, encS, enc, inK, Nd.ok, List.headD_cons, List.cons_append, List.nil_append, List.append_nil, true_and, and_true, Bool.true_and, Bool.and_true, loop_next, weakBs_nil, weakBs_cons, weakB_self, weakB_row, weakB_int, weakL_nil, weakL_unk, weakL_guess, isRow_own, isRow_unk, weakL_int, weakL_bool, weakL_str, weakL_own, weakL_view, weakL_nilS, noRow_int, noRow_bool, own_inj, LTree.val, cond_true, cond_false, Prod.mk.injEq, List.cons.injEq, AV.int.injEq, AV.bool.injEq, AV.str.injEq, AV.agg.injEq]
    omega
theorem loops_eqTempoS : ∀ c, Tryd.f77.body = some c → LoopsOk Tryd.prog (addL (firstId (loopAt Tryd.f77 0)) ann_eqTempoS_0 noL) Tryd.f77.ntmps c := loopsN fun i hi ann h => by
  have hn : loopN Tryd.f77 = 1 := by kernel_rfl
  rw [hn] at hi
  exact match i, hi, h with
    | 0, _, h => (Option.some.inj ((show (addL (firstId (loopAt Tryd.f77 0)) ann_eqTempoS_0 noL) (firstId (loopAt Tryd.f77 0)) = some ann_eqTempoS_0 from by kernel_rfl).symm.trans h)) ▸ loop_eqTempoS_0
set_option maxHeartbeats 1000000 in
theorem sat_eqTempoS : Sat Tryd.prog 77 ct_eqTempoS := by
  refine sat_typed (C := C_Fa_8) (L := (addL (firstId (loopAt Tryd.f77 0)) ann_eqTempoS_0 noL)) (wr := false) mixedOk Tryd.func77 C_Fa_8_ok (loops_eqTempoS) (fun _ => by first | rfl | (simp [ownsOf, ownsOf.ownsL, enc, encV, encS])) fun x hp => ?_
  obtain ⟨(xs : List tTempo.den), (ys : List tTempo.den), _⟩ := x
  replace hp : (xs.length : Int) ≤ 9223372036854775807 := hp
  have htree : exFunc Tryd.prog C_Fa_8 false (addL (firstId (loopAt Tryd.f77 0)) ann_eqTempoS_0 noL) Tryd.f77 (encA [.v qTempo, .v qTempo] (xs, ys, ())) = .ite ((↑xs.length : Int) != (↑ys.length : Int)) (.leaf [.lit false]) (.need (((0 : Int) ≤ (0 : Int) ∧ (0 : Int) ≤ (↑xs.length : Int)) ∧ xs.length = ys.length ∧ (↑xs.length : Int) ≤ (9223372036854775807 : Int)) (.ite (decide (List.drop (Int.toNat (0 : Int)) xs = List.drop (Int.toNat (0 : Int)) ys)) (.leaf [.lit true]) (.leaf [.bool (false)]))) := by kernel_rfl
  refine (congrArg (Tree.ok _) htree).mpr ?_
  clear htree
  simp only [Tree.ok, tyd_inj, packAV, AV.same, AV.same.sameL, encV, encS, enc, inK, Nd.ok, List.headD_cons, List.cons_append, List.nil_append, List.append_nil, true_and, and_true, Bool.true_and, Bool.and_true, Int.toNat_zero, List.drop_zero, decide_eq_true_eq, decide_eq_false_iff_not, bne_iff_ne, ne_eq, bne_eq_false_iff_eq]
  repeat' first | apply And.intro | intro _
  all_goals grind
def C_Fa_9 : FuncId → Option Ct := addC 77 ct_eqTempoS C_Fa_8
theorem C_Fa_9_ok : COk Tryd.prog C_Fa_9 := addC_ok C_Fa_8_ok sat_eqTempoS
def ct_eqTempoMap : Ct := ctOf [.s qTempo, .s qTempo] (fun ((xs : List tTempo.den), (ys : List tTempo.den), _) => .p ((xs.length : Int) ≤ 9223372036854775807)) (fun ((xs : List tTempo.den), (ys : List tTempo.den), _) => .bool (decide (xs = ys)))
set_option maxHeartbeats 1000000 in
theorem sat_eqTempoMap : Sat Tryd.prog 27 ct_eqTempoMap := by
  refine sat_typed (C := C_Fa_9) (L := noL) (wr := false) mixedOk Tryd.func27 C_Fa_9_ok (loops0 (by kernel_rfl)) (fun _ => by first | rfl | (simp [ownsOf, ownsOf.ownsL, enc, encV, encS])) fun x hp => ?_
  obtain ⟨(xs : List tTempo.den), (ys : List tTempo.den), _⟩ := x
  replace hp : (xs.length : Int) ≤ 9223372036854775807 := hp
  have htree : exFunc Tryd.prog C_Fa_9 false noL Tryd.f27 (encA [.s qTempo, .s qTempo] (xs, ys, ())) = .need ((↑xs.length : Int) ≤ (9223372036854775807 : Int)) (.ite (!decide (xs = ys)) (.leaf [.lit false]) (.leaf [.lit true])) := by kernel_rfl
  refine (congrArg (Tree.ok _) htree).mpr ?_
  clear htree
  simp only [Tree.ok, tyd_inj, packAV, AV.same, AV.same.sameL, encV, encS, enc, inK, Nd.ok, List.headD_cons, List.cons_append, List.nil_append, List.append_nil, true_and, and_true, Bool.true_and, Bool.and_true]
  grind
def C_Fa_10 : FuncId → Option Ct := addC 27 ct_eqTempoMap C_Fa_9
theorem C_Fa_10_ok : COk Tryd.prog C_Fa_10 := addC_ok C_Fa_9_ok sat_eqTempoMap

def C_Fa : FuncId → Option Ct := C_Fa_10
theorem C_Fa_ok : COk Tryd.prog C_Fa := C_Fa_10_ok
end Go.Proofs.YtkeckmdmmbeaiaaDoor
