/- Contracts of the functions on pitches and intervals, program and reference, by the evaluator. Conditions: as each says. -/
import Derived.Test.YtkeckmdmmbeaiaaDoorSxP
set_option linter.unusedSimpArgs false
set_option linter.unusedVariables false
namespace Go.Proofs.YtkeckmdmmbeaiaaDoor
open Go.RowKit Sx
set_option maxRecDepth 100000
set_option maxHeartbeats 1000000
def nat7 (i : Int) : Int := if i = 0 then 0 else if i = 1 then 2 else if i = 2 then 4 else if i = 3 then 5 else if i = 4 then 7 else if i = 5 then 9 else 11
theorem nat7_bd (i : Int) : 0 ≤ nat7 i ∧ nat7 i ≤ 11 := by
  unfold nat7
  repeat' split
  all_goals omega
theorem nat7_get (i z : Int) (h0 : 0 ≤ i) (h1 : i < 7) : ([0, 2, 4, 5, 7, 9, 11] : List Int).getD i.toNat z = nat7 i := by
  obtain ⟨k, rfl⟩ := Int.eq_ofNat_of_zero_le h0
  have hk : k < 7 := by omega
  match k, hk with
  | 0, _ => rfl
  | 1, _ => rfl
  | 2, _ => rfl
  | 3, _ => rfl
  | 4, _ => rfl
  | 5, _ => rfl
  | 6, _ => rfl
def natF (s : Int) : Int := 12 * (s / 7) + nat7 (s % 7)
theorem natF_bd (st : Int) (h0 : 0 ≤ st) (h1 : st ≤ 1000) : 0 ≤ natF st ∧ natF st ≤ 2000 := by have := nat7_bd (st % 7); unfold natF; omega
def keyF (st al oc : Int) : Int := 12 * (oc + 1) + natF st + al
def okP (st al oc : Int) : Bool := inB st 0 6 && (inB al (-2) 2 && (inB oc (-1) 9 && inB (keyF st al oc) 0 127))
def overF (a b : Int) : Int := if a < 0 then -b - natF (-a) else b - natF a
def okI (a b : Int) : Bool := inB a (-28) 28 && (inB b (-100) 100 && inB (overF a b) (-3) 3)
theorem okP_bd {st al oc : Int} (h : okP st al oc = true) : (0 ≤ st ∧ st ≤ 6) ∧ (-2 ≤ al ∧ al ≤ 2) ∧ (-1 ≤ oc ∧ oc ≤ 9) ∧ 0 ≤ keyF st al oc ∧ keyF st al oc ≤ 127 := by
  simpa [okP, inB_iff] using h
theorem okI_bd {a b : Int} (h : okI a b = true) : (-28 ≤ a ∧ a ≤ 28) ∧ (-100 ≤ b ∧ b ≤ 100) := by
  simp [okI, inB_iff] at h; omega
def ct_within : Ct := ctOf [.v (.int .i64), .v (.int .i64), .v (.int .i64)] (fun _ => .tt) (fun ((n : Int), (lo : Int), (hi : Int), _) => .bool (inB n lo hi))
set_option maxHeartbeats 1000000 in
theorem sat_within : Sat Tryd.prog 98 ct_within := by
  refine sat_typed (C := noC) (L := noL) (wr := false) mixedOk Tryd.func98 (noC_ok Tryd.prog) (loops0 (by kernel_rfl)) (fun _ => by first | rfl | (simp [ownsOf, ownsOf.ownsL, enc, encV, encS])) fun x hp => ?_
  obtain ⟨(n : Int), (lo : Int), (hi : Int), _⟩ := x
  clear hp
  have htree : exFunc Tryd.prog noC false noL Tryd.f98 (encA [.v (.int .i64), .v (.int .i64), .v (.int .i64)] (n, lo, hi, ())) = .ite (decide (lo ≤ n)) (.leaf [.bool (decide (n ≤ hi))]) (.leaf [.lit false]) := by kernel_rfl
  refine (congrArg (Tree.ok _) htree).mpr ?_
  clear htree
  simp [Tree.ok, tyd_inj, packAV, AV.same, AV.same.sameL, encV, encS, enc, inK, Nd.ok, List.headD_cons, List.cons_append, List.nil_append, List.append_nil, true_and, and_true, Bool.true_and, Bool.and_true, inB]; omega
def C_Pa_1 : FuncId → Option Ct := addC 98 ct_within noC
theorem C_Pa_1_ok : COk Tryd.prog C_Pa_1 := addC_ok (noC_ok Tryd.prog) sat_within
def ct_l00In : Ct := ctOf [.v (.int .i64), .v (.int .i64), .v (.int .i64)] (fun _ => .tt) (fun ((n : Int), (lo : Int), (hi : Int), _) => .bool (inB n lo hi))
set_option maxHeartbeats 1000000 in
theorem sat_l00In : Sat Tryd.prog 80 ct_l00In := by
  refine sat_typed (C := C_Pa_1) (L := noL) (wr := false) mixedOk Tryd.func80 C_Pa_1_ok (loops0 (by kernel_rfl)) (fun _ => by first | rfl | (simp [ownsOf, ownsOf.ownsL, enc, encV, encS])) fun x hp => ?_
  obtain ⟨(n : Int), (lo : Int), (hi : Int), _⟩ := x
  clear hp
  have htree : exFunc Tryd.prog C_Pa_1 false noL Tryd.f80 (encA [.v (.int .i64), .v (.int .i64), .v (.int .i64)] (n, lo, hi, ())) = .ite (decide (lo ≤ n)) (.leaf [.bool (decide (n ≤ hi))]) (.leaf [.lit false]) := by kernel_rfl
  refine (congrArg (Tree.ok _) htree).mpr ?_
  clear htree
  simp [Tree.ok, tyd_inj, packAV, AV.same, AV.same.sameL, encV, encS, enc, inK, Nd.ok, List.headD_cons, List.cons_append, List.nil_append, List.append_nil, true_and, and_true, Bool.true_and, Bool.and_true, inB]; omega
def C_Pa_2 : FuncId → Option Ct := addC 80 ct_l00In C_Pa_1
theorem C_Pa_2_ok : COk Tryd.prog C_Pa_2 := addC_ok C_Pa_1_ok sat_l00In
def ct_natural : Ct := ctOf [.v (.int .i64)] (fun ((s : Int), _) => .p (0 ≤ s ∧ s ≤ 1000)) (fun ((s : Int), _) => .int .i64 (natF s))
set_option maxHeartbeats 1000000 in
theorem sat_natural : Sat Tryd.prog 82 ct_natural := by
  refine sat_typed (C := C_Pa_2) (L := noL) (wr := false) mixedOk Tryd.func82 C_Pa_2_ok (loops0 (by kernel_rfl)) (fun _ => by first | rfl | (simp [ownsOf, ownsOf.ownsL, enc, encV, encS])) fun x hp => ?_
  obtain ⟨(s : Int), _⟩ := x
  replace hp : 0 ≤ s ∧ s ≤ 1000 := hp
  have htree : exFunc Tryd.prog C_Pa_2 false noL Tryd.f82 (encA [.v (.int .i64)] (s, ())) = .need ((7 : Int) ≠ (0 : Int) ∧ inK IntKind.i64 (s.tdiv (7 : Int))) (.need (inK IntKind.i64 ((12 : Int) * s.tdiv (7 : Int))) (.need ((7 : Int) ≠ (0 : Int)) (.need ((0 : Int) ≤ s.tmod (7 : Int) ∧ s.tmod (7 : Int) < (↑[(0 : Int), (2 : Int), (4 : Int), (5 : Int), (7 : Int), (9 : Int), (11 : Int)].length : Int)) (.need ((s.tmod (7 : Int)).toNat < [(0 : Int), (2 : Int), (4 : Int), (5 : Int), (7 : Int), (9 : Int), (11 : Int)].length) (.need (inK IntKind.i64 ((12 : Int) * s.tdiv (7 : Int) + [(0 : Int), (2 : Int), (4 : Int), (5 : Int), (7 : Int), (9 : Int), (11 : Int)].getD (s.tmod (7 : Int)).toNat (Ty.int IntKind.i64).zero)) (.leaf [.int .i64 ((12 : Int) * s.tdiv (7 : Int) + [(0 : Int), (2 : Int), (4 : Int), (5 : Int), (7 : Int), (9 : Int), (11 : Int)].getD (s.tmod (7 : Int)).toNat (Ty.int IntKind.i64).zero)])))))) := by kernel_rfl
  refine (congrArg (Tree.ok _) htree).mpr ?_
  clear htree
  rw [Int.tdiv_eq_ediv_of_nonneg hp.1, Int.tmod_eq_emod_of_nonneg hp.1, nat7_get _ _ (by omega) (by omega)]
  have := nat7_bd (s % 7)
  simp [Tree.ok, tyd_inj, packAV, AV.same, AV.same.sameL, encV, encS, enc, inK, Nd.ok, List.headD_cons, List.cons_append, List.nil_append, List.append_nil, true_and, and_true, Bool.true_and, Bool.and_true, natF]; omega
def C_Pa_3 : FuncId → Option Ct := addC 82 ct_natural C_Pa_2
theorem C_Pa_3_ok : COk Tryd.prog C_Pa_3 := addC_ok C_Pa_2_ok sat_natural
def ct_l16Natural : Ct := ctOf [.v (.int .i64)] (fun ((s : Int), _) => .p (0 ≤ s ∧ s ≤ 1000)) (fun ((s : Int), _) => .int .i64 (natF s))
set_option maxHeartbeats 1000000 in
theorem sat_l16Natural : Sat Tryd.prog 81 ct_l16Natural := by
  refine sat_typed (C := C_Pa_3) (L := noL) (wr := false) mixedOk Tryd.func81 C_Pa_3_ok (loops0 (by kernel_rfl)) (fun _ => by first | rfl | (simp [ownsOf, ownsOf.ownsL, enc, encV, encS])) fun x hp => ?_
  obtain ⟨(s : Int), _⟩ := x
  replace hp : 0 ≤ s ∧ s ≤ 1000 := hp
  have htree : exFunc Tryd.prog C_Pa_3 false noL Tryd.f81 (encA [.v (.int .i64)] (s, ())) = .need ((7 : Int) ≠ (0 : Int) ∧ inK IntKind.i64 (s.tdiv (7 : Int))) (.need (inK IntKind.i64 ((12 : Int) * s.tdiv (7 : Int))) (.need ((7 : Int) ≠ (0 : Int)) (.need ((0 : Int) ≤ s.tmod (7 : Int) ∧ s.tmod (7 : Int) < (↑[(0 : Int), (2 : Int), (4 : Int), (5 : Int), (7 : Int), (9 : Int), (11 : Int)].length : Int)) (.need ((s.tmod (7 : Int)).toNat < [(0 : Int), (2 : Int), (4 : Int), (5 : Int), (7 : Int), (9 : Int), (11 : Int)].length) (.need (inK IntKind.i64 ((12 : Int) * s.tdiv (7 : Int) + [(0 : Int), (2 : Int), (4 : Int), (5 : Int), (7 : Int), (9 : Int), (11 : Int)].getD (s.tmod (7 : Int)).toNat (Ty.int IntKind.i64).zero)) (.leaf [.int .i64 ((12 : Int) * s.tdiv (7 : Int) + [(0 : Int), (2 : Int), (4 : Int), (5 : Int), (7 : Int), (9 : Int), (11 : Int)].getD (s.tmod (7 : Int)).toNat (Ty.int IntKind.i64).zero)])))))) := by kernel_rfl
  refine (congrArg (Tree.ok _) htree).mpr ?_
  clear htree
  rw [Int.tdiv_eq_ediv_of_nonneg hp.1, Int.tmod_eq_emod_of_nonneg hp.1, nat7_get _ _ (by omega) (by omega)]
  have := nat7_bd (s % 7)
  simp [Tree.ok, tyd_inj, packAV, AV.same, AV.same.sameL, encV, encS, enc, inK, Nd.ok, List.headD_cons, List.cons_append, List.nil_append, List.append_nil, true_and, and_true, Bool.true_and, Bool.and_true, natF]; omega
def C_Pa_4 : FuncId → Option Ct := addC 81 ct_l16Natural C_Pa_3
theorem C_Pa_4_ok : COk Tryd.prog C_Pa_4 := addC_ok C_Pa_3_ok sat_l16Natural
def ct_keyOf : Ct := ctOf [.s tPitch] (fun (((st : Int), (al : Int), (oc : Int)), _) => .p ((0 ≤ st ∧ st ≤ 6) ∧ (-1000 ≤ al ∧ al ≤ 1000) ∧ (-1000 ≤ oc ∧ oc ≤ 1000))) (fun (((st : Int), (al : Int), (oc : Int)), _) => .int .i64 (keyF st al oc))
set_option maxHeartbeats 1000000 in
theorem sat_keyOf : Sat Tryd.prog 101 ct_keyOf := by
  refine sat_typed (C := C_Pa_4) (L := noL) (wr := false) mixedOk Tryd.func101 C_Pa_4_ok (loops0 (by kernel_rfl)) (fun _ => by first | rfl | (simp [ownsOf, ownsOf.ownsL, enc, encV, encS])) fun x hp => ?_
  obtain ⟨⟨(st : Int), (al : Int), (oc : Int)⟩, _⟩ := x
  replace hp : (0 ≤ st ∧ st ≤ 6) ∧ (-1000 ≤ al ∧ al ≤ 1000) ∧ (-1000 ≤ oc ∧ oc ≤ 1000) := hp
  have htree : exFunc Tryd.prog C_Pa_4 false noL Tryd.f101 (encA [.s tPitch] ((st, al, oc), ())) = .need (inK IntKind.i64 (oc + (1 : Int))) (.need (inK IntKind.i64 ((12 : Int) * (oc + (1 : Int)))) (.need ((0 : Int) ≤ st ∧ st ≤ (1000 : Int)) (.need (inK IntKind.i64 ((12 : Int) * (oc + (1 : Int)) + natF st)) (.need (inK IntKind.i64 ((12 : Int) * (oc + (1 : Int)) + natF st + al)) (.leaf [.int .i64 ((12 : Int) * (oc + (1 : Int)) + natF st + al)]))))) := by kernel_rfl
  refine (congrArg (Tree.ok _) htree).mpr ?_
  clear htree
  have := natF_bd st (by omega) (by omega)
  simp [Tree.ok, tyd_inj, packAV, AV.same, AV.same.sameL, encV, encS, enc, inK, Nd.ok, List.headD_cons, List.cons_append, List.nil_append, List.append_nil, true_and, and_true, Bool.true_and, Bool.and_true, keyF]; omega
def C_Pa_5 : FuncId → Option Ct := addC 101 ct_keyOf C_Pa_4
theorem C_Pa_5_ok : COk Tryd.prog C_Pa_5 := addC_ok C_Pa_4_ok sat_keyOf
def ct_l16Key : Ct := ctOf [.s tPitch] (fun (((st : Int), (al : Int), (oc : Int)), _) => .p ((0 ≤ st ∧ st ≤ 6) ∧ (-1000 ≤ al ∧ al ≤ 1000) ∧ (-1000 ≤ oc ∧ oc ≤ 1000))) (fun (((st : Int), (al : Int), (oc : Int)), _) => .int .i64 (keyF st al oc))
set_option maxHeartbeats 1000000 in
theorem sat_l16Key : Sat Tryd.prog 104 ct_l16Key := by
  refine sat_typed (C := C_Pa_5) (L := noL) (wr := false) mixedOk Tryd.func104 C_Pa_5_ok (loops0 (by kernel_rfl)) (fun _ => by first | rfl | (simp [ownsOf, ownsOf.ownsL, enc, encV, encS])) fun x hp => ?_
  obtain ⟨⟨(st : Int), (al : Int), (oc : Int)⟩, _⟩ := x
  replace hp : (0 ≤ st ∧ st ≤ 6) ∧ (-1000 ≤ al ∧ al ≤ 1000) ∧ (-1000 ≤ oc ∧ oc ≤ 1000) := hp
  have htree : exFunc Tryd.prog C_Pa_5 false noL Tryd.f104 (encA [.s tPitch] ((st, al, oc), ())) = .need (inK IntKind.i64 (oc + (1 : Int))) (.need (inK IntKind.i64 ((12 : Int) * (oc + (1 : Int)))) (.need ((0 : Int) ≤ st ∧ st ≤ (1000 : Int)) (.need (inK IntKind.i64 ((12 : Int) * (oc + (1 : Int)) + natF st)) (.need (inK IntKind.i64 ((12 : Int) * (oc + (1 : Int)) + natF st + al)) (.leaf [.int .i64 ((12 : Int) * (oc + (1 : Int)) + natF st + al)]))))) := by kernel_rfl
  refine (congrArg (Tree.ok _) htree).mpr ?_
  clear htree
  have := natF_bd st (by omega) (by omega)
  simp [Tree.ok, tyd_inj, packAV, AV.same, AV.same.sameL, encV, encS, enc, inK, Nd.ok, List.headD_cons, List.cons_append, List.nil_append, List.append_nil, true_and, and_true, Bool.true_and, Bool.and_true, keyF]; omega
def C_Pa_6 : FuncId → Option Ct := addC 104 ct_l16Key C_Pa_5
theorem C_Pa_6_ok : COk Tryd.prog C_Pa_6 := addC_ok C_Pa_5_ok sat_l16Key
def ct_isKey : Ct := ctOf [.v (.int .i64)] (fun _ => .tt) (fun ((n : Int), _) => .bool (inB n 0 127))
set_option maxHeartbeats 1000000 in
theorem sat_isKey : Sat Tryd.prog 97 ct_isKey := by
  refine sat_typed (C := C_Pa_6) (L := noL) (wr := false) mixedOk Tryd.func97 C_Pa_6_ok (loops0 (by kernel_rfl)) (fun _ => by first | rfl | (simp [ownsOf, ownsOf.ownsL, enc, encV, encS])) fun x hp => ?_
  obtain ⟨(n : Int), _⟩ := x
  clear hp
  have htree : exFunc Tryd.prog C_Pa_6 false noL Tryd.f97 (encA [.v (.int .i64)] (n, ())) = .leaf [.bool (inB n (0 : Int) (127 : Int))] := by kernel_rfl
  refine (congrArg (Tree.ok _) htree).mpr ?_
  clear htree
  simp [Tree.ok, tyd_inj, packAV, AV.same, AV.same.sameL, encV, encS, enc, inK, Nd.ok, List.headD_cons, List.cons_append, List.nil_append, List.append_nil, true_and, and_true, Bool.true_and, Bool.and_true]
def C_Pa_7 : FuncId → Option Ct := addC 97 ct_isKey C_Pa_6
theorem C_Pa_7_ok : COk Tryd.prog C_Pa_7 := addC_ok C_Pa_6_ok sat_isKey
def ct_isPitch : Ct := ctOf [.s tPitch] (fun _ => .tt) (fun (((st : Int), (al : Int), (oc : Int)), _) => .bool (okP st al oc))
set_option maxHeartbeats 1000000 in
theorem sat_isPitch : Sat Tryd.prog 54 ct_isPitch := by
  refine sat_typed (C := C_Pa_7) (L := noL) (wr := false) mixedOk Tryd.func54 C_Pa_7_ok (loops0 (by kernel_rfl)) (fun _ => by first | rfl | (simp [ownsOf, ownsOf.ownsL, enc, encV, encS])) fun x hp => ?_
  obtain ⟨⟨(st : Int), (al : Int), (oc : Int)⟩, _⟩ := x
  clear hp
  have htree : exFunc Tryd.prog C_Pa_7 false noL Tryd.f54 (encA [.s tPitch] ((st, al, oc), ())) = .ite (inB st (0 : Int) (6 : Int)) (.ite (inB al (-2 : Int) (2 : Int)) (.ite (inB oc (-1 : Int) (9 : Int)) (.need (((0 : Int) ≤ st ∧ st ≤ (6 : Int)) ∧ ((-1000 : Int) ≤ al ∧ al ≤ (1000 : Int)) ∧ (-1000 : Int) ≤ oc ∧ oc ≤ (1000 : Int)) (.leaf [.bool (inB (keyF st al oc) (0 : Int) (127 : Int))])) (.leaf [.lit false])) (.leaf [.lit false])) (.leaf [.lit false]) := by kernel_rfl
  refine (congrArg (Tree.ok _) htree).mpr ?_
  clear htree
  simp only [Tree.ok, tyd_inj, packAV, AV.same, AV.same.sameL, encV, encS, enc, inK, Nd.ok, List.headD_cons, List.cons_append, List.nil_append, List.append_nil, true_and, and_true, Bool.true_and, Bool.and_true]
  grind [okP, inB]
def C_Pa_8 : FuncId → Option Ct := addC 54 ct_isPitch C_Pa_7
theorem C_Pa_8_ok : COk Tryd.prog C_Pa_8 := addC_ok C_Pa_7_ok sat_isPitch
def ct_l16Ok : Ct := ctOf [.s tPitch] (fun _ => .tt) (fun (((st : Int), (al : Int), (oc : Int)), _) => .bool (okP st al oc))
set_option maxHeartbeats 1000000 in
theorem sat_l16Ok : Sat Tryd.prog 52 ct_l16Ok := by
  refine sat_typed (C := C_Pa_8) (L := noL) (wr := false) mixedOk Tryd.func52 C_Pa_8_ok (loops0 (by kernel_rfl)) (fun _ => by first | rfl | (simp [ownsOf, ownsOf.ownsL, enc, encV, encS])) fun x hp => ?_
  obtain ⟨⟨(st : Int), (al : Int), (oc : Int)⟩, _⟩ := x
  clear hp
  have htree : exFunc Tryd.prog C_Pa_8 false noL Tryd.f52 (encA [.s tPitch] ((st, al, oc), ())) = .ite (inB st (0 : Int) (6 : Int)) (.ite (inB al (-2 : Int) (2 : Int)) (.ite (inB oc (-1 : Int) (9 : Int)) (.need (((0 : Int) ≤ st ∧ st ≤ (6 : Int)) ∧ ((-1000 : Int) ≤ al ∧ al ≤ (1000 : Int)) ∧ (-1000 : Int) ≤ oc ∧ oc ≤ (1000 : Int)) (.leaf [.bool (inB (keyF st al oc) (0 : Int) (127 : Int))])) (.leaf [.lit false])) (.leaf [.lit false])) (.leaf [.lit false]) := by kernel_rfl
  refine (congrArg (Tree.ok _) htree).mpr ?_
  clear htree
  simp only [Tree.ok, tyd_inj, packAV, AV.same, AV.same.sameL, encV, encS, enc, inK, Nd.ok, List.headD_cons, List.cons_append, List.nil_append, List.append_nil, true_and, and_true, Bool.true_and, Bool.and_true]
  grind [okP, inB]
def C_Pa_9 : FuncId → Option Ct := addC 52 ct_l16Ok C_Pa_8
theorem C_Pa_9_ok : COk Tryd.prog C_Pa_9 := addC_ok C_Pa_8_ok sat_l16Ok

def C_Pa : FuncId → Option Ct := C_Pa_9
theorem C_Pa_ok : COk Tryd.prog C_Pa := C_Pa_9_ok
end Go.Proofs.YtkeckmdmmbeaiaaDoor
