/- Contracts: intervals, a pitch moved, both of the program and the reference, and the law on them. Conditions: as each says. -/
import Derived.Test.YtkeckmdmmbeaiaaDoorPa
set_option linter.unusedSimpArgs false
set_option linter.unusedVariables false
namespace Go.Proofs.YtkeckmdmmbeaiaaDoor
open Go.RowKit Sx
set_option maxRecDepth 100000
set_option maxHeartbeats 1000000
def ct_opposite : Ct := ctOf [.s tIv] (fun (((a : Int), (b : Int)), _) => .p ((-1000 ≤ a ∧ a ≤ 1000) ∧ (-1000 ≤ b ∧ b ≤ 1000))) (fun (((a : Int), (b : Int)), _) => .agg (enc tIv (-a, -b)))
set_option maxHeartbeats 1000000 in
theorem sat_opposite : Sat Tryd.prog 60 ct_opposite := by
  refine sat_typed (C := C_Pa) (L := noL) (wr := false) mixedOk Tryd.func60 C_Pa_ok (loops0 (by kernel_rfl)) (fun _ => by first | rfl | (simp [ownsOf, ownsOf.ownsL, enc, encV, encS])) fun x hp => ?_
  obtain ⟨⟨(a : Int), (b : Int)⟩, _⟩ := x
  replace hp : (-1000 ≤ a ∧ a ≤ 1000) ∧ (-1000 ≤ b ∧ b ≤ 1000) := hp
  have htree : exFunc Tryd.prog C_Pa false noL Tryd.f60 (encA [.s tIv] ((a, b), ())) = .need (inK IntKind.i64 ((0 : Int) - a)) (.need (inK IntKind.i64 ((0 : Int) - b)) (.leaf [.agg [.int .i64 ((0 : Int) - a), .int .i64 ((0 : Int) - b)]])) := by kernel_rfl
  refine (congrArg (Tree.ok _) htree).mpr ?_
  clear htree
  simp [Tree.ok, tyd_inj, packAV, AV.same, AV.same.sameL, encV, encS, enc, inK, Nd.ok, List.headD_cons, List.cons_append, List.nil_append, List.append_nil, true_and, and_true, Bool.true_and, Bool.and_true]; omega
def C_Pb_1 : FuncId → Option Ct := addC 60 ct_opposite C_Pa
theorem C_Pb_1_ok : COk Tryd.prog C_Pb_1 := addC_ok C_Pa_ok sat_opposite
def ct_isInterval : Ct := ctOf [.s tIv] (fun _ => .tt) (fun (((a : Int), (b : Int)), _) => .bool (okI a b))
set_option maxHeartbeats 1000000 in
theorem sat_isInterval : Sat Tryd.prog 59 ct_isInterval := by
  refine sat_typed (C := C_Pb_1) (L := noL) (wr := false) mixedOk Tryd.func59 C_Pb_1_ok (loops0 (by kernel_rfl)) (fun _ => by first | rfl | (simp [ownsOf, ownsOf.ownsL, enc, encV, encS])) fun x hp => ?_
  obtain ⟨⟨(a : Int), (b : Int)⟩, _⟩ := x
  clear hp
  have htree : exFunc Tryd.prog C_Pb_1 false noL Tryd.f59 (encA [.s tIv] ((a, b), ())) = .ite (!inB a (-28 : Int) (28 : Int)) (.leaf [.lit false]) (.ite (!inB b (-100 : Int) (100 : Int)) (.leaf [.lit false]) (.ite (decide (a < (0 : Int))) (.need (((-1000 : Int) ≤ a ∧ a ≤ (1000 : Int)) ∧ (-1000 : Int) ≤ b ∧ b ≤ (1000 : Int)) (.need ((0 : Int) ≤ -a ∧ -a ≤ (1000 : Int)) (.need (inK IntKind.i64 (-b - natF (-a))) (.leaf [.bool (inB (-b - natF (-a)) (-3 : Int) (3 : Int))])))) (.need ((0 : Int) ≤ a ∧ a ≤ (1000 : Int)) (.need (inK IntKind.i64 (b - natF a)) (.leaf [.bool (inB (b - natF a) (-3 : Int) (3 : Int))]))))) := by kernel_rfl
  refine (congrArg (Tree.ok _) htree).mpr ?_
  clear htree
  have h1 := natF_bd a
  have h2 := natF_bd (-a)
  simp only [Tree.ok, tyd_inj, packAV, AV.same, AV.same.sameL, encV, encS, enc, inK, Nd.ok, List.headD_cons, List.cons_append, List.nil_append, List.append_nil, true_and, and_true, Bool.true_and, Bool.and_true]
  grind [okI, overF, inB]
def C_Pb_2 : FuncId → Option Ct := addC 59 ct_isInterval C_Pb_1
theorem C_Pb_2_ok : COk Tryd.prog C_Pb_2 := addC_ok C_Pb_1_ok sat_isInterval
def ct_l16Over : Ct := ctOf [.s tIv] (fun (((a : Int), (b : Int)), _) => .p ((-100 ≤ a ∧ a ≤ 100) ∧ (-1000 ≤ b ∧ b ≤ 1000))) (fun (((a : Int), (b : Int)), _) => .tup [.int .i64 (overF a b), .int .i64 (if a < 0 then -a else a)])
set_option maxHeartbeats 1000000 in
theorem sat_l16Over : Sat Tryd.prog 109 ct_l16Over := by
  refine sat_typed (C := C_Pb_2) (L := noL) (wr := false) mixedOk Tryd.func109 C_Pb_2_ok (loops0 (by kernel_rfl)) (fun _ => by first | rfl | (simp [ownsOf, ownsOf.ownsL, enc, encV, encS])) fun x hp => ?_
  obtain ⟨⟨(a : Int), (b : Int)⟩, _⟩ := x
  replace hp : (-100 ≤ a ∧ a ≤ 100) ∧ (-1000 ≤ b ∧ b ≤ 1000) := hp
  have htree : exFunc Tryd.prog C_Pb_2 false noL Tryd.f109 (encA [.s tIv] ((a, b), ())) = .ite (decide (a < (0 : Int))) (.need (inK IntKind.i64 ((0 : Int) - b)) (.need (inK IntKind.i64 ((0 : Int) - a)) (.need ((0 : Int) ≤ (0 : Int) - a ∧ (0 : Int) - a ≤ (1000 : Int)) (.need (inK IntKind.i64 ((0 : Int) - b - natF ((0 : Int) - a))) (.need (inK IntKind.i64 ((0 : Int) - a)) (.leaf [.int .i64 ((0 : Int) - b - natF ((0 : Int) - a)), .int .i64 ((0 : Int) - a)])))))) (.need ((0 : Int) ≤ a ∧ a ≤ (1000 : Int)) (.need (inK IntKind.i64 (b - natF a)) (.leaf [.int .i64 (b - natF a), .int .i64 (a)]))) := by kernel_rfl
  refine (congrArg (Tree.ok _) htree).mpr ?_
  clear htree
  have h1 := natF_bd a
  have h2 := natF_bd (-a)
  simp only [Tree.ok, tyd_inj, packAV, AV.same, AV.same.sameL, encV, encS, enc, inK, Nd.ok, List.headD_cons, List.cons_append, List.nil_append, List.append_nil, true_and, and_true, Bool.true_and, Bool.and_true]
  grind [overF]
def C_Pb_3 : FuncId → Option Ct := addC 109 ct_l16Over C_Pb_2
theorem C_Pb_3_ok : COk Tryd.prog C_Pb_3 := addC_ok C_Pb_2_ok sat_l16Over
def ct_l16Interval : Ct := ctOf [.s tIv] (fun _ => .tt) (fun (((a : Int), (b : Int)), _) => .bool (okI a b))
set_option maxHeartbeats 1000000 in
theorem sat_l16Interval : Sat Tryd.prog 57 ct_l16Interval := by
  refine sat_typed (C := C_Pb_3) (L := noL) (wr := false) mixedOk Tryd.func57 C_Pb_3_ok (loops0 (by kernel_rfl)) (fun _ => by first | rfl | (simp [ownsOf, ownsOf.ownsL, enc, encV, encS])) fun x hp => ?_
  obtain ⟨⟨(a : Int), (b : Int)⟩, _⟩ := x
  clear hp
  have htree : exFunc Tryd.prog C_Pb_3 false noL Tryd.f57 (encA [.s tIv] ((a, b), ())) = .ite (!inB a (-28 : Int) (28 : Int)) (.leaf [.lit false]) (.ite (!inB b (-100 : Int) (100 : Int)) (.leaf [.lit false]) (.need (((-100 : Int) ≤ a ∧ a ≤ (100 : Int)) ∧ (-1000 : Int) ≤ b ∧ b ≤ (1000 : Int)) (.leaf [.bool (inB (overF a b) (-3 : Int) (3 : Int))]))) := by kernel_rfl
  refine (congrArg (Tree.ok _) htree).mpr ?_
  clear htree
  simp only [Tree.ok, tyd_inj, packAV, AV.same, AV.same.sameL, encV, encS, enc, inK, Nd.ok, List.headD_cons, List.cons_append, List.nil_append, List.append_nil, true_and, and_true, Bool.true_and, Bool.and_true]
  grind [okI, inB]
def C_Pb_4 : FuncId → Option Ct := addC 57 ct_l16Interval C_Pb_3
theorem C_Pb_4_ok : COk Tryd.prog C_Pb_4 := addC_ok C_Pb_3_ok sat_l16Interval
def ct_place : Ct := ctOf [.s tPitch] (fun (((st : Int), (al : Int), (oc : Int)), _) => .p ((-1000 ≤ st ∧ st ≤ 1000) ∧ (-1000 ≤ oc ∧ oc ≤ 1000))) (fun (((st : Int), (al : Int), (oc : Int)), _) => .int .i64 (7 * oc + st + 0 * al))
set_option maxHeartbeats 1000000 in
theorem sat_place : Sat Tryd.prog 130 ct_place := by
  refine sat_typed (C := C_Pb_4) (L := noL) (wr := false) mixedOk Tryd.func130 C_Pb_4_ok (loops0 (by kernel_rfl)) (fun _ => by first | rfl | (simp [ownsOf, ownsOf.ownsL, enc, encV, encS])) fun x hp => ?_
  obtain ⟨⟨(st : Int), (al : Int), (oc : Int)⟩, _⟩ := x
  replace hp : (-1000 ≤ st ∧ st ≤ 1000) ∧ (-1000 ≤ oc ∧ oc ≤ 1000) := hp
  have htree : exFunc Tryd.prog C_Pb_4 false noL Tryd.f130 (encA [.s tPitch] ((st, al, oc), ())) = .need (inK IntKind.i64 ((7 : Int) * oc)) (.need (inK IntKind.i64 ((7 : Int) * oc + st)) (.leaf [.int .i64 ((7 : Int) * oc + st)])) := by kernel_rfl
  refine (congrArg (Tree.ok _) htree).mpr ?_
  clear htree
  simp [Tree.ok, tyd_inj, packAV, AV.same, AV.same.sameL, encV, encS, enc, inK, Nd.ok, List.headD_cons, List.cons_append, List.nil_append, List.append_nil, true_and, and_true, Bool.true_and, Bool.and_true]; omega
def C_Pb_5 : FuncId → Option Ct := addC 130 ct_place C_Pb_4
theorem C_Pb_5_ok : COk Tryd.prog C_Pb_5 := addC_ok C_Pb_4_ok sat_place
def ct_floorDiv : Ct := ctOf [.v (.int .i64), .v (.int .i64)] (fun ((a : Int), (b : Int), _) => .p (1 ≤ b ∧ -9223372036854775807 ≤ a ∧ a ≤ 9223372036854775807)) (fun ((a : Int), (b : Int), _) => .int .i64 (a / b))
set_option maxHeartbeats 1000000 in
theorem sat_floorDiv : Sat Tryd.prog 131 ct_floorDiv := by
  refine sat_typed (C := C_Pb_5) (L := noL) (wr := false) mixedOk Tryd.func131 C_Pb_5_ok (loops0 (by kernel_rfl)) (fun _ => by first | rfl | (simp [ownsOf, ownsOf.ownsL, enc, encV, encS])) fun x hp => ?_
  obtain ⟨(a : Int), (b : Int), _⟩ := x
  replace hp : 1 ≤ b ∧ -9223372036854775807 ≤ a ∧ a ≤ 9223372036854775807 := hp
  have htree : exFunc Tryd.prog C_Pb_5 false noL Tryd.f131 (encA [.v (.int .i64), .v (.int .i64)] (a, b, ())) = .need (b ≠ (0 : Int) ∧ inK IntKind.i64 (a.tdiv b)) (.need (b ≠ (0 : Int)) (.ite (decide (a.tmod b < (0 : Int))) (.need (inK IntKind.i64 (a.tdiv b - (1 : Int))) (.leaf [.int .i64 (a.tdiv b - (1 : Int))])) (.leaf [.int .i64 (a.tdiv b)]))) := by kernel_rfl
  refine (congrArg (Tree.ok _) htree).mpr ?_
  clear htree
  have h1 := fdiv_rule a b hp.1
  have h2 := tdiv_small a b hp.1
  simp only [Tree.ok, tyd_inj, packAV, AV.same, AV.same.sameL, encV, encS, enc, inK, Nd.ok, List.headD_cons, List.cons_append, List.nil_append, List.append_nil, true_and, and_true, Bool.true_and, Bool.and_true, decide_eq_true_eq, decide_eq_false_iff_not]
  generalize a.tdiv b = q at *
  generalize a.tmod b = r at *
  generalize a / b = e at *
  omega
def C_Pb_6 : FuncId → Option Ct := addC 131 ct_floorDiv C_Pb_5
theorem C_Pb_6_ok : COk Tryd.prog C_Pb_6 := addC_ok C_Pb_5_ok sat_floorDiv
def ct_l02Div : Ct := ctOf [.v (.int .i64), .v (.int .i64)] (fun ((a : Int), (b : Int), _) => .p (1 ≤ b ∧ -9223372036854775807 ≤ a ∧ a ≤ 9223372036854775807)) (fun ((a : Int), (b : Int), _) => .int .i64 (a / b))
set_option maxHeartbeats 1000000 in
theorem sat_l02Div : Sat Tryd.prog 128 ct_l02Div := by
  refine sat_typed (C := C_Pb_6) (L := noL) (wr := false) mixedOk Tryd.func128 C_Pb_6_ok (loops0 (by kernel_rfl)) (fun _ => by first | rfl | (simp [ownsOf, ownsOf.ownsL, enc, encV, encS])) fun x hp => ?_
  obtain ⟨(a : Int), (b : Int), _⟩ := x
  replace hp : 1 ≤ b ∧ -9223372036854775807 ≤ a ∧ a ≤ 9223372036854775807 := hp
  have htree : exFunc Tryd.prog C_Pb_6 false noL Tryd.f128 (encA [.v (.int .i64), .v (.int .i64)] (a, b, ())) = .need (b ≠ (0 : Int) ∧ inK IntKind.i64 (a.tdiv b)) (.need (b ≠ (0 : Int)) (.ite (decide (a.tmod b < (0 : Int))) (.need (inK IntKind.i64 (a.tdiv b - (1 : Int))) (.leaf [.int .i64 (a.tdiv b - (1 : Int))])) (.leaf [.int .i64 (a.tdiv b)]))) := by kernel_rfl
  refine (congrArg (Tree.ok _) htree).mpr ?_
  clear htree
  have h1 := fdiv_rule a b hp.1
  have h2 := tdiv_small a b hp.1
  simp only [Tree.ok, tyd_inj, packAV, AV.same, AV.same.sameL, encV, encS, enc, inK, Nd.ok, List.headD_cons, List.cons_append, List.nil_append, List.append_nil, true_and, and_true, Bool.true_and, Bool.and_true, decide_eq_true_eq, decide_eq_false_iff_not]
  generalize a.tdiv b = q at *
  generalize a.tmod b = r at *
  generalize a / b = e at *
  omega
def C_Pb_7 : FuncId → Option Ct := addC 128 ct_l02Div C_Pb_6
theorem C_Pb_7_ok : COk Tryd.prog C_Pb_7 := addC_ok C_Pb_6_ok sat_l02Div
def ct_modulo : Ct := ctOf [.v (.int .i64), .v (.int .i64)] (fun ((a : Int), (b : Int), _) => .p (1 ≤ b ∧ b ≤ 1000000000 ∧ -4611686018427387904 ≤ a ∧ a ≤ 4611686018427387904)) (fun ((a : Int), (b : Int), _) => .int .i64 (a % b))
set_option maxHeartbeats 1000000 in
theorem sat_modulo : Sat Tryd.prog 132 ct_modulo := by
  refine sat_typed (C := C_Pb_7) (L := noL) (wr := false) mixedOk Tryd.func132 C_Pb_7_ok (loops0 (by kernel_rfl)) (fun _ => by first | rfl | (simp [ownsOf, ownsOf.ownsL, enc, encV, encS])) fun x hp => ?_
  obtain ⟨(a : Int), (b : Int), _⟩ := x
  replace hp : 1 ≤ b ∧ b ≤ 1000000000 ∧ -4611686018427387904 ≤ a ∧ a ≤ 4611686018427387904 := hp
  have htree : exFunc Tryd.prog C_Pb_7 false noL Tryd.f132 (encA [.v (.int .i64), .v (.int .i64)] (a, b, ())) = .need ((1 : Int) ≤ b ∧ (-9223372036854775807 : Int) ≤ a ∧ a ≤ (9223372036854775807 : Int)) (.need (inK IntKind.i64 (b * (a / b))) (.need (inK IntKind.i64 (a - b * (a / b))) (.leaf [.int .i64 (a - b * (a / b))]))) := by kernel_rfl
  refine (congrArg (Tree.ok _) htree).mpr ?_
  clear htree
  have h1 : b * (a / b) + a % b = a := Int.mul_ediv_add_emod a b
  have h2 := Int.emod_nonneg a (b := b) (by omega)
  have h3 := Int.emod_lt_of_pos a (b := b) (by omega)
  simp only [Tree.ok, tyd_inj, packAV, AV.same, AV.same.sameL, encV, encS, enc, inK, Nd.ok, List.headD_cons, List.cons_append, List.nil_append, List.append_nil, true_and, and_true, Bool.true_and, Bool.and_true]
  generalize a % b = r at *
  generalize b * (a / b) = m at *
  omega
def C_Pb_8 : FuncId → Option Ct := addC 132 ct_modulo C_Pb_7
theorem C_Pb_8_ok : COk Tryd.prog C_Pb_8 := addC_ok C_Pb_7_ok sat_modulo
def fif7 (i : Int) : Int := if i = 0 then 0 else if i = 1 then 2 else if i = 2 then 4 else if i = 3 then -1 else if i = 4 then 1 else if i = 5 then 3 else 5
theorem fif7_bd (i : Int) : -1 ≤ fif7 i ∧ fif7 i ≤ 5 := by
  unfold fif7
  repeat' split
  all_goals omega
theorem fif7_get (i z : Int) (h0 : 0 ≤ i) (h1 : i < 7) : ([0, 2, 4, -1, 1, 3, 5] : List Int).getD i.toNat z = fif7 i := by
  obtain ⟨k, rfl⟩ := Int.eq_ofNat_of_zero_le h0
  have hk : k < 7 := by omega
  match k, hk with
  | 0, _ => rfl
  | 1, _ => rfl
  | 2, _ => rfl
  | 3, _ => rfl
  | 4, _ => rfl
  | 5, _ => rfl
  | 6, _ => rfl
def ct_fifths : Ct := ctOf [.s tPitch] (fun (((st : Int), (al : Int), (oc : Int)), _) => .p ((0 ≤ st ∧ st ≤ 6) ∧ (-1000 ≤ al ∧ al ≤ 1000) ∧ oc = oc)) (fun (((st : Int), (al : Int), (oc : Int)), _) => .int .i64 (fif7 st + 7 * al))
set_option maxHeartbeats 1000000 in
theorem sat_fifths : Sat Tryd.prog 100 ct_fifths := by
  refine sat_typed (C := C_Pb_8) (L := noL) (wr := false) mixedOk Tryd.func100 C_Pb_8_ok (loops0 (by kernel_rfl)) (fun _ => by first | rfl | (simp [ownsOf, ownsOf.ownsL, enc, encV, encS])) fun x hp => ?_
  obtain ⟨⟨(st : Int), (al : Int), (oc : Int)⟩, _⟩ := x
  replace hp : (0 ≤ st ∧ st ≤ 6) ∧ (-1000 ≤ al ∧ al ≤ 1000) ∧ oc = oc := hp
  have htree : exFunc Tryd.prog C_Pb_8 false noL Tryd.f100 (encA [.s tPitch] ((st, al, oc), ())) = .need ((0 : Int) ≤ st ∧ st < (↑[(0 : Int), (2 : Int), (4 : Int), (-1 : Int), (1 : Int), (3 : Int), (5 : Int)].length : Int)) (.need (st.toNat < [(0 : Int), (2 : Int), (4 : Int), (-1 : Int), (1 : Int), (3 : Int), (5 : Int)].length) (.need (inK IntKind.i64 ((7 : Int) * al)) (.need (inK IntKind.i64 ([(0 : Int), (2 : Int), (4 : Int), (-1 : Int), (1 : Int), (3 : Int), (5 : Int)].getD st.toNat (Ty.int IntKind.i64).zero + (7 : Int) * al)) (.leaf [.int .i64 ([(0 : Int), (2 : Int), (4 : Int), (-1 : Int), (1 : Int), (3 : Int), (5 : Int)].getD st.toNat (Ty.int IntKind.i64).zero + (7 : Int) * al)])))) := by kernel_rfl
  refine (congrArg (Tree.ok _) htree).mpr ?_
  clear htree
  rw [fif7_get _ _ (by omega) (by omega)]
  have := fif7_bd st
  simp [Tree.ok, tyd_inj, packAV, AV.same, AV.same.sameL, encV, encS, enc, inK, Nd.ok, List.headD_cons, List.cons_append, List.nil_append, List.append_nil, true_and, and_true, Bool.true_and, Bool.and_true]; omega
def C_Pb_9 : FuncId → Option Ct := addC 100 ct_fifths C_Pb_8
theorem C_Pb_9_ok : COk Tryd.prog C_Pb_9 := addC_ok C_Pb_8_ok sat_fifths
def ct_toPitch : Ct := ctOf [.s tPitch] (fun _ => .tt) (fun (((st : Int), (al : Int), (oc : Int)), _) => .agg (enc tPitch (st, al, oc)))
set_option maxHeartbeats 1000000 in
theorem sat_toPitch : Sat Tryd.prog 13 ct_toPitch := by
  refine sat_typed (C := C_Pb_9) (L := noL) (wr := false) mixedOk Tryd.func13 C_Pb_9_ok (loops0 (by kernel_rfl)) (fun _ => by first | rfl | (simp [ownsOf, ownsOf.ownsL, enc, encV, encS])) fun x hp => ?_
  obtain ⟨⟨(st : Int), (al : Int), (oc : Int)⟩, _⟩ := x
  clear hp
  have htree : exFunc Tryd.prog C_Pb_9 false noL Tryd.f13 (encA [.s tPitch] ((st, al, oc), ())) = .leaf [.agg [.int .i64 (st), .int .i64 (al), .int .i64 (oc)]] := by kernel_rfl
  refine (congrArg (Tree.ok _) htree).mpr ?_
  clear htree
  simp [Tree.ok, tyd_inj, packAV, AV.same, AV.same.sameL, encV, encS, enc, inK, Nd.ok, List.headD_cons, List.cons_append, List.nil_append, List.append_nil, true_and, and_true, Bool.true_and, Bool.and_true]
def C_Pb_10 : FuncId → Option Ct := addC 13 ct_toPitch C_Pb_9
theorem C_Pb_10_ok : COk Tryd.prog C_Pb_10 := addC_ok C_Pb_9_ok sat_toPitch
def ct_toInterval : Ct := ctOf [.s tIv] (fun _ => .tt) (fun (((a : Int), (b : Int)), _) => .agg (enc tIv (a, b)))
set_option maxHeartbeats 1000000 in
theorem sat_toInterval : Sat Tryd.prog 16 ct_toInterval := by
  refine sat_typed (C := C_Pb_10) (L := noL) (wr := false) mixedOk Tryd.func16 C_Pb_10_ok (loops0 (by kernel_rfl)) (fun _ => by first | rfl | (simp [ownsOf, ownsOf.ownsL, enc, encV, encS])) fun x hp => ?_
  obtain ⟨⟨(a : Int), (b : Int)⟩, _⟩ := x
  clear hp
  have htree : exFunc Tryd.prog C_Pb_10 false noL Tryd.f16 (encA [.s tIv] ((a, b), ())) = .leaf [.agg [.int .i64 (a), .int .i64 (b)]] := by kernel_rfl
  refine (congrArg (Tree.ok _) htree).mpr ?_
  clear htree
  simp [Tree.ok, tyd_inj, packAV, AV.same, AV.same.sameL, encV, encS, enc, inK, Nd.ok, List.headD_cons, List.cons_append, List.nil_append, List.append_nil, true_and, and_true, Bool.true_and, Bool.and_true]
def C_Pb_11 : FuncId → Option Ct := addC 16 ct_toInterval C_Pb_10
theorem C_Pb_11_ok : COk Tryd.prog C_Pb_11 := addC_ok C_Pb_10_ok sat_toInterval
def ct_eqPitch : Ct := ctOf [.s tPitch, .s tPitch] (fun _ => .tt) (fun (((st : Int), (al : Int), (oc : Int)), ((s2 : Int), (a2 : Int), (o2 : Int)), _) => .bool (decide (st = s2 ∧ al = a2 ∧ oc = o2)))
set_option maxHeartbeats 1000000 in
theorem sat_eqPitch : Sat Tryd.prog 38 ct_eqPitch := by
  refine sat_typed (C := C_Pb_11) (L := noL) (wr := false) mixedOk Tryd.func38 C_Pb_11_ok (loops0 (by kernel_rfl)) (fun _ => by first | rfl | (simp [ownsOf, ownsOf.ownsL, enc, encV, encS])) fun x hp => ?_
  obtain ⟨⟨(st : Int), (al : Int), (oc : Int)⟩, ⟨(s2 : Int), (a2 : Int), (o2 : Int)⟩, _⟩ := x
  clear hp
  have htree : exFunc Tryd.prog C_Pb_11 false noL Tryd.f38 (encA [.s tPitch, .s tPitch] ((st, al, oc), (s2, a2, o2), ())) = .ite (st != s2) (.leaf [.lit false]) (.ite (al != a2) (.leaf [.lit false]) (.ite (oc != o2) (.leaf [.lit false]) (.leaf [.lit true]))) := by kernel_rfl
  refine (congrArg (Tree.ok _) htree).mpr ?_
  clear htree
  simp only [Tree.ok, tyd_inj, packAV, AV.same, AV.same.sameL, encV, encS, enc, inK, Nd.ok, List.headD_cons, List.cons_append, List.nil_append, List.append_nil, true_and, and_true, Bool.true_and, Bool.and_true]
  grind
def C_Pb_12 : FuncId → Option Ct := addC 38 ct_eqPitch C_Pb_11
theorem C_Pb_12_ok : COk Tryd.prog C_Pb_12 := addC_ok C_Pb_11_ok sat_eqPitch
def mvN (s o i : Int) : Int := 7 * o + s + i
def mvA (s a o i j : Int) : Int := keyF s a o + j - keyF (mvN s o i % 7) 0 (mvN s o i / 7)
def moveF (s a o i j : Int) : (Int × Int × Int) × Int :=
  if okP s a o = true ∧ okI i j = true then (if okP (mvN s o i % 7) (mvA s a o i j) (mvN s o i / 7) = true then ((mvN s o i % 7, mvA s a o i j, mvN s o i / 7), 0) else ((0, 0, 0), 2)) else ((0, 0, 0), 1)
def ct_iMovePitch : Ct := ctOf [.s tPitch, .s tIv] (fun _ => .tt) (fun (((s : Int), (a : Int), (o : Int)), ((i : Int), (j : Int)), _) => .tup [.agg (enc tPitch (moveF s a o i j).1), .int .i64 (moveF s a o i j).2])
set_option maxHeartbeats 1000000 in
theorem sat_iMovePitch : Sat Tryd.prog 88 ct_iMovePitch := by
  refine sat_typed (C := C_Pb_12) (L := noL) (wr := false) mixedOk Tryd.func88 C_Pb_12_ok (loops0 (by kernel_rfl)) (fun _ => by first | rfl | (simp [ownsOf, ownsOf.ownsL, enc, encV, encS])) fun x hp => ?_
  obtain ⟨⟨(s : Int), (a : Int), (o : Int)⟩, ⟨(i : Int), (j : Int)⟩, _⟩ := x
  clear hp
  have htree : exFunc Tryd.prog C_Pb_12 false noL Tryd.f88 (encA [.s tPitch, .s tIv] ((s, a, o), (i, j), ())) = .ite (!okP s a o) (.leaf [.agg [.int .i64 ((0 : Int)), .int .i64 ((0 : Int)), .int .i64 ((0 : Int))], .int .i64 ((1 : Int))]) (.ite (!okI i j) (.leaf [.agg [.int .i64 ((0 : Int)), .int .i64 ((0 : Int)), .int .i64 ((0 : Int))], .int .i64 ((1 : Int))]) (.need (((-1000 : Int) ≤ s ∧ s ≤ (1000 : Int)) ∧ (-1000 : Int) ≤ o ∧ o ≤ (1000 : Int)) (.need (inK IntKind.i64 ((7 : Int) * o + s + (0 : Int) * a + i)) (.need ((1 : Int) ≤ (7 : Int) ∧ (-9223372036854775807 : Int) ≤ (7 : Int) * o + s + (0 : Int) * a + i ∧ (7 : Int) * o + s + (0 : Int) * a + i ≤ (9223372036854775807 : Int)) (.need ((1 : Int) ≤ (7 : Int) ∧ (7 : Int) ≤ (1000000000 : Int) ∧ (-4611686018427387904 : Int) ≤ (7 : Int) * o + s + (0 : Int) * a + i ∧ (7 : Int) * o + s + (0 : Int) * a + i ≤ (4611686018427387904 : Int)) (.need (((0 : Int) ≤ s ∧ s ≤ (6 : Int)) ∧ ((-1000 : Int) ≤ a ∧ a ≤ (1000 : Int)) ∧ (-1000 : Int) ≤ o ∧ o ≤ (1000 : Int)) (.need (inK IntKind.i64 (keyF s a o + j)) (.need (((0 : Int) ≤ ((7 : Int) * o + s + (0 : Int) * a + i) % (7 : Int) ∧ ((7 : Int) * o + s + (0 : Int) * a + i) % (7 : Int) ≤ (6 : Int)) ∧ ((-1000 : Int) ≤ (0 : Int) ∧ (0 : Int) ≤ (1000 : Int)) ∧ (-1000 : Int) ≤ ((7 : Int) * o + s + (0 : Int) * a + i) / (7 : Int) ∧ ((7 : Int) * o + s + (0 : Int) * a + i) / (7 : Int) ≤ (1000 : Int)) (.need (inK IntKind.i64 (keyF s a o + j - keyF (((7 : Int) * o + s + (0 : Int) * a + i) % (7 : Int)) (0 : Int) (((7 : Int) * o + s + (0 : Int) * a + i) / (7 : Int)))) (.ite (!okP (((7 : Int) * o + s + (0 : Int) * a + i) % (7 : Int)) (keyF s a o + j - keyF (((7 : Int) * o + s + (0 : Int) * a + i) % (7 : Int)) (0 : Int) (((7 : Int) * o + s + (0 : Int) * a + i) / (7 : Int))) (((7 : Int) * o + s + (0 : Int) * a + i) / (7 : Int))) (.leaf [.agg [.int .i64 ((0 : Int)), .int .i64 ((0 : Int)), .int .i64 ((0 : Int))], .int .i64 ((2 : Int))]) (.leaf [.agg [.int .i64 (((7 : Int) * o + s + (0 : Int) * a + i) % (7 : Int)), .int .i64 (keyF s a o + j - keyF (((7 : Int) * o + s + (0 : Int) * a + i) % (7 : Int)) (0 : Int) (((7 : Int) * o + s + (0 : Int) * a + i) / (7 : Int))), .int .i64 (((7 : Int) * o + s + (0 : Int) * a + i) / (7 : Int))], .int .i64 ((0 : Int))]))))))))))) := by kernel_rfl
  refine (congrArg (Tree.ok _) htree).mpr ?_
  clear htree
  have h1 := @okP_bd s a o
  have h2 := @okI_bd i j
  have h3 := natF_bd ((7 * o + s + i) % 7)
  simp only [Tree.ok, tyd_inj, packAV, AV.same, AV.same.sameL, encV, encS, enc, inK, Nd.ok, List.headD_cons, List.cons_append, List.nil_append, List.append_nil, true_and, and_true, Bool.true_and, Bool.and_true]
  repeat' first | apply And.intro | intro _
  all_goals grind [moveF, mvN, mvA, keyF]
def C_Pb_13 : FuncId → Option Ct := addC 88 ct_iMovePitch C_Pb_12
theorem C_Pb_13_ok : COk Tryd.prog C_Pb_13 := addC_ok C_Pb_12_ok sat_iMovePitch
def ct_sMovePitch : Ct := ctOf [.s tPitch, .s tIv] (fun _ => .tt) (fun (((s : Int), (a : Int), (o : Int)), ((i : Int), (j : Int)), _) => .tup [.agg (enc tPitch (moveF s a o i j).1), .int .i64 (moveF s a o i j).2])
set_option maxHeartbeats 1000000 in
theorem sat_sMovePitch : Sat Tryd.prog 85 ct_sMovePitch := by
  refine sat_typed (C := C_Pb_13) (L := noL) (wr := false) mixedOk Tryd.func85 C_Pb_13_ok (loops0 (by kernel_rfl)) (fun _ => by first | rfl | (simp [ownsOf, ownsOf.ownsL, enc, encV, encS])) fun x hp => ?_
  obtain ⟨⟨(s : Int), (a : Int), (o : Int)⟩, ⟨(i : Int), (j : Int)⟩, _⟩ := x
  clear hp
  have htree : exFunc Tryd.prog C_Pb_13 false noL Tryd.f85 (encA [.s tPitch, .s tIv] ((s, a, o), (i, j), ())) = .ite (!okP s a o) (.leaf [.agg [.int .i64 ((0 : Int)), .int .i64 ((0 : Int)), .int .i64 ((0 : Int))], .int .i64 ((1 : Int))]) (.ite (!okI i j) (.leaf [.agg [.int .i64 ((0 : Int)), .int .i64 ((0 : Int)), .int .i64 ((0 : Int))], .int .i64 ((1 : Int))]) (.need (inK IntKind.i64 ((7 : Int) * o)) (.need (inK IntKind.i64 ((7 : Int) * o + s)) (.need (inK IntKind.i64 ((7 : Int) * o + s + i)) (.need ((1 : Int) ≤ (7 : Int) ∧ (-9223372036854775807 : Int) ≤ (7 : Int) * o + s + i ∧ (7 : Int) * o + s + i ≤ (9223372036854775807 : Int)) (.need (inK IntKind.i64 ((7 : Int) * (((7 : Int) * o + s + i) / (7 : Int)))) (.need (inK IntKind.i64 ((7 : Int) * o + s + i - (7 : Int) * (((7 : Int) * o + s + i) / (7 : Int)))) (.need (((0 : Int) ≤ s ∧ s ≤ (6 : Int)) ∧ ((-1000 : Int) ≤ a ∧ a ≤ (1000 : Int)) ∧ (-1000 : Int) ≤ o ∧ o ≤ (1000 : Int)) (.need (inK IntKind.i64 (keyF s a o + j)) (.need (((0 : Int) ≤ (7 : Int) * o + s + i - (7 : Int) * (((7 : Int) * o + s + i) / (7 : Int)) ∧ (7 : Int) * o + s + i - (7 : Int) * (((7 : Int) * o + s + i) / (7 : Int)) ≤ (6 : Int)) ∧ ((-1000 : Int) ≤ (0 : Int) ∧ (0 : Int) ≤ (1000 : Int)) ∧ (-1000 : Int) ≤ ((7 : Int) * o + s + i) / (7 : Int) ∧ ((7 : Int) * o + s + i) / (7 : Int) ≤ (1000 : Int)) (.need (inK IntKind.i64 (keyF s a o + j - keyF ((7 : Int) * o + s + i - (7 : Int) * (((7 : Int) * o + s + i) / (7 : Int))) (0 : Int) (((7 : Int) * o + s + i) / (7 : Int)))) (.ite (!okP ((7 : Int) * o + s + i - (7 : Int) * (((7 : Int) * o + s + i) / (7 : Int))) (keyF s a o + j - keyF ((7 : Int) * o + s + i - (7 : Int) * (((7 : Int) * o + s + i) / (7 : Int))) (0 : Int) (((7 : Int) * o + s + i) / (7 : Int))) (((7 : Int) * o + s + i) / (7 : Int))) (.leaf [.agg [.int .i64 ((0 : Int)), .int .i64 ((0 : Int)), .int .i64 ((0 : Int))], .int .i64 ((2 : Int))]) (.leaf [.agg [.int .i64 ((7 : Int) * o + s + i - (7 : Int) * (((7 : Int) * o + s + i) / (7 : Int))), .int .i64 (keyF s a o + j - keyF ((7 : Int) * o + s + i - (7 : Int) * (((7 : Int) * o + s + i) / (7 : Int))) (0 : Int) (((7 : Int) * o + s + i) / (7 : Int))), .int .i64 (((7 : Int) * o + s + i) / (7 : Int))], .int .i64 ((0 : Int))]))))))))))))) := by kernel_rfl
  refine (congrArg (Tree.ok _) htree).mpr ?_
  clear htree
  have h1 := @okP_bd s a o
  have h2 := @okI_bd i j
  have h3 := natF_bd ((7 * o + s + i) % 7)
  simp only [Tree.ok, tyd_inj, packAV, AV.same, AV.same.sameL, encV, encS, enc, inK, Nd.ok, List.headD_cons, List.cons_append, List.nil_append, List.append_nil, true_and, and_true, Bool.true_and, Bool.and_true]
  repeat' first | apply And.intro | intro _
  all_goals grind [moveF, mvN, mvA, keyF]
def C_Pb_14 : FuncId → Option Ct := addC 85 ct_sMovePitch C_Pb_13
theorem C_Pb_14_ok : COk Tryd.prog C_Pb_14 := addC_ok C_Pb_13_ok sat_sMovePitch

def C_Pb : FuncId → Option Ct := C_Pb_14
theorem C_Pb_ok : COk Tryd.prog C_Pb := C_Pb_14_ok
end Go.Proofs.YtkeckmdmmbeaiaaDoor
