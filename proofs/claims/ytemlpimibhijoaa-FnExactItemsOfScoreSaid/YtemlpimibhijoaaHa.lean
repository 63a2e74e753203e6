/- Contracts: pitches, intervals, the fields of items, of the program and the reference. Conditions: as each says. -/
import Derived.Test.YtemlpimibhijoaaFk
import Derived.Test.YtemlpimibhijoaaFn
set_option linter.unusedSimpArgs false
set_option linter.unusedVariables false
namespace Go.Proofs.Ytemlpimibhijoaa
open Go.RowKit Sx
set_option maxRecDepth 100000
set_option maxHeartbeats 1000000
def C_HaB : FuncId → Option Ct := addC 127 ct_slEqualPitch (addC 110 ct_sameItem (addC 9 ct_toItemS (addC 7 ct_szItemS (addC 12 ct_eqItemS C_Fk))))
theorem C_HaB_ok : COk Try.prog C_HaB := addC_ok (addC_ok (addC_ok (addC_ok (addC_ok C_Fk_ok sat_eqItemS) sat_szItemS) sat_toItemS) sat_sameItem) sat_slEqualPitch
def nat7 (i : Int) : Int := if i = 0 then 0 else if i = 1 then 2 else if i = 2 then 4 else if i = 3 then 5 else if i = 4 then 7 else if i = 5 then 9 else 11
theorem nat7_bd (i : Int) : 0 ≤ nat7 i ∧ nat7 i ≤ 11 := by
  unfold nat7
  repeat' split
  all_goals omega
theorem nat7_get (i z : Int) (h0 : 0 ≤ i) (h1 : i < 7) : ([0, 2, 4, 5, 7, 9, 11] : List Int).getD i.toNat z = nat7 i := by
  obtain ⟨k, rfl⟩ := Int.eq_ofNat_of_zero_le h0
  have hk : k < 7 := by omega
  match k, hk with
  | 0, _ => rfl
  | 1, _ => rfl
  | 2, _ => rfl
  | 3, _ => rfl
  | 4, _ => rfl
  | 5, _ => rfl
  | 6, _ => rfl
def natF (s : Int) : Int := 12 * (s / 7) + nat7 (s % 7)
theorem natF_bd (st : Int) (h0 : 0 ≤ st) (h1 : st ≤ 1000) : 0 ≤ natF st ∧ natF st ≤ 2000 := by have := nat7_bd (st % 7); unfold natF; omega
def keyF (st al oc : Int) : Int := 12 * (oc + 1) + natF st + al
def okP (st al oc : Int) : Bool := inB st 0 6 && (inB al (-2) 2 && (inB oc (-1) 9 && inB (keyF st al oc) 0 127))
def overF (a b : Int) : Int := if a < 0 then -b - natF (-a) else b - natF a
def okI (a b : Int) : Bool := inB a (-28) 28 && (inB b (-100) 100 && inB (overF a b) (-3) 3)
theorem okP_bd {st al oc : Int} (h : okP st al oc = true) : (0 ≤ st ∧ st ≤ 6) ∧ (-2 ≤ al ∧ al ≤ 2) ∧ (-1 ≤ oc ∧ oc ≤ 9) ∧ 0 ≤ keyF st al oc ∧ keyF st al oc ≤ 127 := by
  simpa [okP, inB_iff] using h
theorem okI_bd {a b : Int} (h : okI a b = true) : (-28 ≤ a ∧ a ≤ 28) ∧ (-100 ≤ b ∧ b ≤ 100) := by
  simp [okI, inB_iff] at h; omega
def ct_natural : Ct := ctOf [.v (.int .i64)] (fun ((s : Int), _) => .p (0 ≤ s ∧ s ≤ 1000)) (fun ((s : Int), _) => .int .i64 (natF s))
set_option maxHeartbeats 1000000 in
theorem sat_natural : Sat Try.prog 98 ct_natural := by
  refine sat_typed (C := C_HaB) (L := noL) (wr := false) mixedOk Try.func98 C_HaB_ok (loops0 (by kernel_rfl)) (fun _ => by first | rfl | (simp [ownsOf, ownsOf.ownsL, enc, encV, encS])) fun x hp => ?_
  obtain ⟨(s : Int), _⟩ := x
  replace hp : 0 ≤ s ∧ s ≤ 1000 := hp
  have htree : exFunc Try.prog C_HaB false noL Try.f98 (encA [.v (.int .i64)] (s, ())) = .need ((7 : Int) ≠ (0 : Int) ∧ inK IntKind.i64 (s.tdiv (7 : Int))) (.need (inK IntKind.i64 ((12 : Int) * s.tdiv (7 : Int))) (.need ((7 : Int) ≠ (0 : Int)) (.need ((0 : Int) ≤ s.tmod (7 : Int) ∧ s.tmod (7 : Int) < (↑[(0 : Int), (2 : Int), (4 : Int), (5 : Int), (7 : Int), (9 : Int), (11 : Int)].length : Int)) (.need ((s.tmod (7 : Int)).toNat < [(0 : Int), (2 : Int), (4 : Int), (5 : Int), (7 : Int), (9 : Int), (11 : Int)].length) (.need (inK IntKind.i64 ((12 : Int) * s.tdiv (7 : Int) + [(0 : Int), (2 : Int), (4 : Int), (5 : Int), (7 : Int), (9 : Int), (11 : Int)].getD (s.tmod (7 : Int)).toNat (Ty.int IntKind.i64).zero)) (.leaf [.int .i64 ((12 : Int) * s.tdiv (7 : Int) + [(0 : Int), (2 : Int), (4 : Int), (5 : Int), (7 : Int), (9 : Int), (11 : Int)].getD (s.tmod (7 : Int)).toNat (Ty.int IntKind.i64).zero)])))))) := by kernel_rfl
  refine (congrArg (Tree.ok _) htree).mpr ?_
  clear htree
  rw [Int.tdiv_eq_ediv_of_nonneg hp.1, Int.tmod_eq_emod_of_nonneg hp.1, nat7_get _ _ (by omega) (by omega)]
  have := nat7_bd (s % 7)
  simp [Tree.ok, tyd_inj, packAV, AV.same, AV.same.sameL, encV, encS, enc, inK, Nd.ok, List.headD_cons, List.cons_append, List.nil_append, List.append_nil, true_and, and_true, Bool.true_and, Bool.and_true, natF]; omega
def C_Ha_1 : FuncId → Option Ct := addC 98 ct_natural C_HaB
theorem C_Ha_1_ok : COk Try.prog C_Ha_1 := addC_ok C_HaB_ok sat_natural
def ct_l16Natural : Ct := ctOf [.v (.int .i64)] (fun ((s : Int), _) => .p (0 ≤ s ∧ s ≤ 1000)) (fun ((s : Int), _) => .int .i64 (natF s))
set_option maxHeartbeats 1000000 in
theorem sat_l16Natural : Sat Try.prog 65 ct_l16Natural := by
  refine sat_typed (C := C_Ha_1) (L := noL) (wr := false) mixedOk Try.func65 C_Ha_1_ok (loops0 (by kernel_rfl)) (fun _ => by first | rfl | (simp [ownsOf, ownsOf.ownsL, enc, encV, encS])) fun x hp => ?_
  obtain ⟨(s : Int), _⟩ := x
  replace hp : 0 ≤ s ∧ s ≤ 1000 := hp
  have htree : exFunc Try.prog C_Ha_1 false noL Try.f65 (encA [.v (.int .i64)] (s, ())) = .need ((7 : Int) ≠ (0 : Int) ∧ inK IntKind.i64 (s.tdiv (7 : Int))) (.need (inK IntKind.i64 ((12 : Int) * s.tdiv (7 : Int))) (.need ((7 : Int) ≠ (0 : Int)) (.need ((0 : Int) ≤ s.tmod (7 : Int) ∧ s.tmod (7 : Int) < (↑[(0 : Int), (2 : Int), (4 : Int), (5 : Int), (7 : Int), (9 : Int), (11 : Int)].length : Int)) (.need ((s.tmod (7 : Int)).toNat < [(0 : Int), (2 : Int), (4 : Int), (5 : Int), (7 : Int), (9 : Int), (11 : Int)].length) (.need (inK IntKind.i64 ((12 : Int) * s.tdiv (7 : Int) + [(0 : Int), (2 : Int), (4 : Int), (5 : Int), (7 : Int), (9 : Int), (11 : Int)].getD (s.tmod (7 : Int)).toNat (Ty.int IntKind.i64).zero)) (.leaf [.int .i64 ((12 : Int) * s.tdiv (7 : Int) + [(0 : Int), (2 : Int), (4 : Int), (5 : Int), (7 : Int), (9 : Int), (11 : Int)].getD (s.tmod (7 : Int)).toNat (Ty.int IntKind.i64).zero)])))))) := by kernel_rfl
  refine (congrArg (Tree.ok _) htree).mpr ?_
  clear htree
  rw [Int.tdiv_eq_ediv_of_nonneg hp.1, Int.tmod_eq_emod_of_nonneg hp.1, nat7_get _ _ (by omega) (by omega)]
  have := nat7_bd (s % 7)
  simp [Tree.ok, tyd_inj, packAV, AV.same, AV.same.sameL, encV, encS, enc, inK, Nd.ok, List.headD_cons, List.cons_append, List.nil_append, List.append_nil, true_and, and_true, Bool.true_and, Bool.and_true, natF]; omega
def C_Ha_2 : FuncId → Option Ct := addC 65 ct_l16Natural C_Ha_1
theorem C_Ha_2_ok : COk Try.prog C_Ha_2 := addC_ok C_Ha_1_ok sat_l16Natural
def ct_keyOf : Ct := ctOf [.s tPitch] (fun (((st : Int), (al : Int), (oc : Int)), _) => .p ((0 ≤ st ∧ st ≤ 6) ∧ (-1000 ≤ al ∧ al ≤ 1000) ∧ (-1000 ≤ oc ∧ oc ≤ 1000))) (fun (((st : Int), (al : Int), (oc : Int)), _) => .int .i64 (keyF st al oc))
set_option maxHeartbeats 1000000 in
theorem sat_keyOf : Sat Try.prog 74 ct_keyOf := by
  refine sat_typed (C := C_Ha_2) (L := noL) (wr := false) mixedOk Try.func74 C_Ha_2_ok (loops0 (by kernel_rfl)) (fun _ => by first | rfl | (simp [ownsOf, ownsOf.ownsL, enc, encV, encS])) fun x hp => ?_
  obtain ⟨⟨(st : Int), (al : Int), (oc : Int)⟩, _⟩ := x
  replace hp : (0 ≤ st ∧ st ≤ 6) ∧ (-1000 ≤ al ∧ al ≤ 1000) ∧ (-1000 ≤ oc ∧ oc ≤ 1000) := hp
  have htree : exFunc Try.prog C_Ha_2 false noL Try.f74 (encA [.s tPitch] ((st, al, oc), ())) = .need (inK IntKind.i64 (oc + (1 : Int))) (.need (inK IntKind.i64 ((12 : Int) * (oc + (1 : Int)))) (.need ((0 : Int) ≤ st ∧ st ≤ (1000 : Int)) (.need (inK IntKind.i64 ((12 : Int) * (oc + (1 : Int)) + natF st)) (.need (inK IntKind.i64 ((12 : Int) * (oc + (1 : Int)) + natF st + al)) (.leaf [.int .i64 ((12 : Int) * (oc + (1 : Int)) + natF st + al)]))))) := by kernel_rfl
  refine (congrArg (Tree.ok _) htree).mpr ?_
  clear htree
  have := natF_bd st (by omega) (by omega)
  simp [Tree.ok, tyd_inj, packAV, AV.same, AV.same.sameL, encV, encS, enc, inK, Nd.ok, List.headD_cons, List.cons_append, List.nil_append, List.append_nil, true_and, and_true, Bool.true_and, Bool.and_true, keyF]; omega
def C_Ha_3 : FuncId → Option Ct := addC 74 ct_keyOf C_Ha_2
theorem C_Ha_3_ok : COk Try.prog C_Ha_3 := addC_ok C_Ha_2_ok sat_keyOf
def ct_l16Key : Ct := ctOf [.s tPitch] (fun (((st : Int), (al : Int), (oc : Int)), _) => .p ((0 ≤ st ∧ st ≤ 6) ∧ (-1000 ≤ al ∧ al ≤ 1000) ∧ (-1000 ≤ oc ∧ oc ≤ 1000))) (fun (((st : Int), (al : Int), (oc : Int)), _) => .int .i64 (keyF st al oc))
set_option maxHeartbeats 1000000 in
theorem sat_l16Key : Sat Try.prog 28 ct_l16Key := by
  refine sat_typed (C := C_Ha_3) (L := noL) (wr := false) mixedOk Try.func28 C_Ha_3_ok (loops0 (by kernel_rfl)) (fun _ => by first | rfl | (simp [ownsOf, ownsOf.ownsL, enc, encV, encS])) fun x hp => ?_
  obtain ⟨⟨(st : Int), (al : Int), (oc : Int)⟩, _⟩ := x
  replace hp : (0 ≤ st ∧ st ≤ 6) ∧ (-1000 ≤ al ∧ al ≤ 1000) ∧ (-1000 ≤ oc ∧ oc ≤ 1000) := hp
  have htree : exFunc Try.prog C_Ha_3 false noL Try.f28 (encA [.s tPitch] ((st, al, oc), ())) = .need (inK IntKind.i64 (oc + (1 : Int))) (.need (inK IntKind.i64 ((12 : Int) * (oc + (1 : Int)))) (.need ((0 : Int) ≤ st ∧ st ≤ (1000 : Int)) (.need (inK IntKind.i64 ((12 : Int) * (oc + (1 : Int)) + natF st)) (.need (inK IntKind.i64 ((12 : Int) * (oc + (1 : Int)) + natF st + al)) (.leaf [.int .i64 ((12 : Int) * (oc + (1 : Int)) + natF st + al)]))))) := by kernel_rfl
  refine (congrArg (Tree.ok _) htree).mpr ?_
  clear htree
  have := natF_bd st (by omega) (by omega)
  simp [Tree.ok, tyd_inj, packAV, AV.same, AV.same.sameL, encV, encS, enc, inK, Nd.ok, List.headD_cons, List.cons_append, List.nil_append, List.append_nil, true_and, and_true, Bool.true_and, Bool.and_true, keyF]; omega
def C_Ha_4 : FuncId → Option Ct := addC 28 ct_l16Key C_Ha_3
theorem C_Ha_4_ok : COk Try.prog C_Ha_4 := addC_ok C_Ha_3_ok sat_l16Key
def ct_isPitch : Ct := ctOf [.s tPitch] (fun _ => .tt) (fun (((st : Int), (al : Int), (oc : Int)), _) => .bool (okP st al oc))
set_option maxHeartbeats 1000000 in
theorem sat_isPitch : Sat Try.prog 101 ct_isPitch := by
  refine sat_typed (C := C_Ha_4) (L := noL) (wr := false) mixedOk Try.func101 C_Ha_4_ok (loops0 (by kernel_rfl)) (fun _ => by first | rfl | (simp [ownsOf, ownsOf.ownsL, enc, encV, encS])) fun x hp => ?_
  obtain ⟨⟨(st : Int), (al : Int), (oc : Int)⟩, _⟩ := x
  clear hp
  have htree : exFunc Try.prog C_Ha_4 false noL Try.f101 (encA [.s tPitch] ((st, al, oc), ())) = .ite (inB st (0 : Int) (6 : Int)) (.ite (inB al (-2 : Int) (2 : Int)) (.ite (inB oc (-1 : Int) (9 : Int)) (.need (((0 : Int) ≤ st ∧ st ≤ (6 : Int)) ∧ ((-1000 : Int) ≤ al ∧ al ≤ (1000 : Int)) ∧ (-1000 : Int) ≤ oc ∧ oc ≤ (1000 : Int)) (.leaf [.bool (inB (keyF st al oc) (0 : Int) (127 : Int))])) (.leaf [.lit false])) (.leaf [.lit false])) (.leaf [.lit false]) := by kernel_rfl
  refine (congrArg (Tree.ok _) htree).mpr ?_
  clear htree
  simp only [Tree.ok, tyd_inj, packAV, AV.same, AV.same.sameL, encV, encS, enc, inK, Nd.ok, List.headD_cons, List.cons_append, List.nil_append, List.append_nil, true_and, and_true, Bool.true_and, Bool.and_true]
  grind [okP, inB]
def C_Ha_5 : FuncId → Option Ct := addC 101 ct_isPitch C_Ha_4
theorem C_Ha_5_ok : COk Try.prog C_Ha_5 := addC_ok C_Ha_4_ok sat_isPitch
def ct_l16Ok : Ct := ctOf [.s tPitch] (fun _ => .tt) (fun (((st : Int), (al : Int), (oc : Int)), _) => .bool (okP st al oc))
set_option maxHeartbeats 1000000 in
theorem sat_l16Ok : Sat Try.prog 89 ct_l16Ok := by
  refine sat_typed (C := C_Ha_5) (L := noL) (wr := false) mixedOk Try.func89 C_Ha_5_ok (loops0 (by kernel_rfl)) (fun _ => by first | rfl | (simp [ownsOf, ownsOf.ownsL, enc, encV, encS])) fun x hp => ?_
  obtain ⟨⟨(st : Int), (al : Int), (oc : Int)⟩, _⟩ := x
  clear hp
  have htree : exFunc Try.prog C_Ha_5 false noL Try.f89 (encA [.s tPitch] ((st, al, oc), ())) = .ite (inB st (0 : Int) (6 : Int)) (.ite (inB al (-2 : Int) (2 : Int)) (.ite (inB oc (-1 : Int) (9 : Int)) (.need (((0 : Int) ≤ st ∧ st ≤ (6 : Int)) ∧ ((-1000 : Int) ≤ al ∧ al ≤ (1000 : Int)) ∧ (-1000 : Int) ≤ oc ∧ oc ≤ (1000 : Int)) (.leaf [.bool (inB (keyF st al oc) (0 : Int) (127 : Int))])) (.leaf [.lit false])) (.leaf [.lit false])) (.leaf [.lit false]) := by kernel_rfl
  refine (congrArg (Tree.ok _) htree).mpr ?_
  clear htree
  simp only [Tree.ok, tyd_inj, packAV, AV.same, AV.same.sameL, encV, encS, enc, inK, Nd.ok, List.headD_cons, List.cons_append, List.nil_append, List.append_nil, true_and, and_true, Bool.true_and, Bool.and_true]
  grind [okP, inB]
def C_Ha_6 : FuncId → Option Ct := addC 89 ct_l16Ok C_Ha_5
theorem C_Ha_6_ok : COk Try.prog C_Ha_6 := addC_ok C_Ha_5_ok sat_l16Ok
def ct_opposite : Ct := ctOf [.s tIv] (fun (((a : Int), (b : Int)), _) => .p ((-1000 ≤ a ∧ a ≤ 1000) ∧ (-1000 ≤ b ∧ b ≤ 1000))) (fun (((a : Int), (b : Int)), _) => .agg (enc tIv (-a, -b)))
set_option maxHeartbeats 1000000 in
theorem sat_opposite : Sat Try.prog 126 ct_opposite := by
  refine sat_typed (C := C_Ha_6) (L := noL) (wr := false) mixedOk Try.func126 C_Ha_6_ok (loops0 (by kernel_rfl)) (fun _ => by first | rfl | (simp [ownsOf, ownsOf.ownsL, enc, encV, encS])) fun x hp => ?_
  obtain ⟨⟨(a : Int), (b : Int)⟩, _⟩ := x
  replace hp : (-1000 ≤ a ∧ a ≤ 1000) ∧ (-1000 ≤ b ∧ b ≤ 1000) := hp
  have htree : exFunc Try.prog C_Ha_6 false noL Try.f126 (encA [.s tIv] ((a, b), ())) = .need (inK IntKind.i64 ((0 : Int) - a)) (.need (inK IntKind.i64 ((0 : Int) - b)) (.leaf [.agg [.int .i64 ((0 : Int) - a), .int .i64 ((0 : Int) - b)]])) := by kernel_rfl
  refine (congrArg (Tree.ok _) htree).mpr ?_
  clear htree
  simp [Tree.ok, tyd_inj, packAV, AV.same, AV.same.sameL, encV, encS, enc, inK, Nd.ok, List.headD_cons, List.cons_append, List.nil_append, List.append_nil, true_and, and_true, Bool.true_and, Bool.and_true]; omega
def C_Ha_7 : FuncId → Option Ct := addC 126 ct_opposite C_Ha_6
theorem C_Ha_7_ok : COk Try.prog C_Ha_7 := addC_ok C_Ha_6_ok sat_opposite
def ct_isInterval : Ct := ctOf [.s tIv] (fun _ => .tt) (fun (((a : Int), (b : Int)), _) => .bool (okI a b))
set_option maxHeartbeats 1000000 in
theorem sat_isInterval : Sat Try.prog 109 ct_isInterval := by
  refine sat_typed (C := C_Ha_7) (L := noL) (wr := false) mixedOk Try.func109 C_Ha_7_ok (loops0 (by kernel_rfl)) (fun _ => by first | rfl | (simp [ownsOf, ownsOf.ownsL, enc, encV, encS])) fun x hp => ?_
  obtain ⟨⟨(a : Int), (b : Int)⟩, _⟩ := x
  clear hp
  have htree : exFunc Try.prog C_Ha_7 false noL Try.f109 (encA [.s tIv] ((a, b), ())) = .ite (!inB a (-28 : Int) (28 : Int)) (.leaf [.lit false]) (.ite (!inB b (-100 : Int) (100 : Int)) (.leaf [.lit false]) (.ite (decide (a < (0 : Int))) (.need (((-1000 : Int) ≤ a ∧ a ≤ (1000 : Int)) ∧ (-1000 : Int) ≤ b ∧ b ≤ (1000 : Int)) (.need ((0 : Int) ≤ -a ∧ -a ≤ (1000 : Int)) (.need (inK IntKind.i64 (-b - natF (-a))) (.leaf [.bool (inB (-b - natF (-a)) (-3 : Int) (3 : Int))])))) (.need ((0 : Int) ≤ a ∧ a ≤ (1000 : Int)) (.need (inK IntKind.i64 (b - natF a)) (.leaf [.bool (inB (b - natF a) (-3 : Int) (3 : Int))]))))) := by kernel_rfl
  refine (congrArg (Tree.ok _) htree).mpr ?_
  clear htree
  have h1 := natF_bd a
  have h2 := natF_bd (-a)
  simp only [Tree.ok, tyd_inj, packAV, AV.same, AV.same.sameL, encV, encS, enc, inK, Nd.ok, List.headD_cons, List.cons_append, List.nil_append, List.append_nil, true_and, and_true, Bool.true_and, Bool.and_true]
  grind [okI, overF, inB]
def C_Ha_8 : FuncId → Option Ct := addC 109 ct_isInterval C_Ha_7
theorem C_Ha_8_ok : COk Try.prog C_Ha_8 := addC_ok C_Ha_7_ok sat_isInterval
def ct_l16Over : Ct := ctOf [.s tIv] (fun (((a : Int), (b : Int)), _) => .p ((-100 ≤ a ∧ a ≤ 100) ∧ (-1000 ≤ b ∧ b ≤ 1000))) (fun (((a : Int), (b : Int)), _) => .tup [.int .i64 (overF a b), .int .i64 (if a < 0 then -a else a)])
set_option maxHeartbeats 1000000 in
theorem sat_l16Over : Sat Try.prog 128 ct_l16Over := by
  refine sat_typed (C := C_Ha_8) (L := noL) (wr := false) mixedOk Try.func128 C_Ha_8_ok (loops0 (by kernel_rfl)) (fun _ => by first | rfl | (simp [ownsOf, ownsOf.ownsL, enc, encV, encS])) fun x hp => ?_
  obtain ⟨⟨(a : Int), (b : Int)⟩, _⟩ := x
  replace hp : (-100 ≤ a ∧ a ≤ 100) ∧ (-1000 ≤ b ∧ b ≤ 1000) := hp
  have htree : exFunc Try.prog C_Ha_8 false noL Try.f128 (encA [.s tIv] ((a, b), ())) = .ite (decide (a < (0 : Int))) (.need (inK IntKind.i64 ((0 : Int) - b)) (.need (inK IntKind.i64 ((0 : Int) - a)) (.need ((0 : Int) ≤ (0 : Int) - a ∧ (0 : Int) - a ≤ (1000 : Int)) (.need (inK IntKind.i64 ((0 : Int) - b - natF ((0 : Int) - a))) (.need (inK IntKind.i64 ((0 : Int) - a)) (.leaf [.int .i64 ((0 : Int) - b - natF ((0 : Int) - a)), .int .i64 ((0 : Int) - a)])))))) (.need ((0 : Int) ≤ a ∧ a ≤ (1000 : Int)) (.need (inK IntKind.i64 (b - natF a)) (.leaf [.int .i64 (b - natF a), .int .i64 (a)]))) := by kernel_rfl
  refine (congrArg (Tree.ok _) htree).mpr ?_
  clear htree
  have h1 := natF_bd a
  have h2 := natF_bd (-a)
  simp only [Tree.ok, tyd_inj, packAV, AV.same, AV.same.sameL, encV, encS, enc, inK, Nd.ok, List.headD_cons, List.cons_append, List.nil_append, List.append_nil, true_and, and_true, Bool.true_and, Bool.and_true]
  grind [overF]
def C_Ha_9 : FuncId → Option Ct := addC 128 ct_l16Over C_Ha_8
theorem C_Ha_9_ok : COk Try.prog C_Ha_9 := addC_ok C_Ha_8_ok sat_l16Over
def ct_l16Interval : Ct := ctOf [.s tIv] (fun _ => .tt) (fun (((a : Int), (b : Int)), _) => .bool (okI a b))
set_option maxHeartbeats 1000000 in
theorem sat_l16Interval : Sat Try.prog 115 ct_l16Interval := by
  refine sat_typed (C := C_Ha_9) (L := noL) (wr := false) mixedOk Try.func115 C_Ha_9_ok (loops0 (by kernel_rfl)) (fun _ => by first | rfl | (simp [ownsOf, ownsOf.ownsL, enc, encV, encS])) fun x hp => ?_
  obtain ⟨⟨(a : Int), (b : Int)⟩, _⟩ := x
  clear hp
  have htree : exFunc Try.prog C_Ha_9 false noL Try.f115 (encA [.s tIv] ((a, b), ())) = .ite (!inB a (-28 : Int) (28 : Int)) (.leaf [.lit false]) (.ite (!inB b (-100 : Int) (100 : Int)) (.leaf [.lit false]) (.need (((-100 : Int) ≤ a ∧ a ≤ (100 : Int)) ∧ (-1000 : Int) ≤ b ∧ b ≤ (1000 : Int)) (.leaf [.bool (inB (overF a b) (-3 : Int) (3 : Int))]))) := by kernel_rfl
  refine (congrArg (Tree.ok _) htree).mpr ?_
  clear htree
  simp only [Tree.ok, tyd_inj, packAV, AV.same, AV.same.sameL, encV, encS, enc, inK, Nd.ok, List.headD_cons, List.cons_append, List.nil_append, List.append_nil, true_and, and_true, Bool.true_and, Bool.and_true]
  grind [okI, inB]
def C_Ha_10 : FuncId → Option Ct := addC 115 ct_l16Interval C_Ha_9
theorem C_Ha_10_ok : COk Try.prog C_Ha_10 := addC_ok C_Ha_9_ok sat_l16Interval
def pAt (ps : List tPitch.den) (i : Nat) : tPitch.den := ps.getD i tPitch.zero
def keyP (x : tPitch.den) : Int := keyF x.1 x.2.1 x.2.2
def okPt (x : tPitch.den) : Bool := okP x.1 x.2.1 x.2.2
def chGo (ps : List tPitch.den) : Nat → Nat → Bool
  | 0, _ => true
  | n + 1, i => okPt (pAt ps i) && ((decide (i = 0) || decide (keyP (pAt ps (i - 1)) < keyP (pAt ps i))) && chGo ps n (i + 1))
theorem chGo_go (ps : List tPitch.den) (i : Nat) (h : i < ps.length) : chGo ps (ps.length - i) i = (okPt (pAt ps i) && ((decide (i = 0) || decide (keyP (pAt ps (i - 1)) < keyP (pAt ps i))) && chGo ps (ps.length - (i + 1)) (i + 1))) := by
  rw [show ps.length - i = (ps.length - (i + 1)) + 1 by omega]; rfl
def chordF (ps : List tPitch.den) : Bool := chGo ps ps.length 0 && inB (pLen ps) 1 6
def lenF (a b : Int) : Bool := beatF a b && decide (0 < a)
def ct_sizePitch : Ct := ctOf [.v qPitch] (fun _ => .tt) (fun ((xs : List tPitch.den), _) => .int .i64 (xs.length : Int))
set_option maxHeartbeats 1000000 in
theorem sat_sizePitch : Sat Try.prog 125 ct_sizePitch := by
  refine sat_typed (C := C_Ha_10) (L := noL) (wr := false) mixedOk Try.func125 C_Ha_10_ok (loops0 (by kernel_rfl)) (fun _ => by first | rfl | (simp [ownsOf, ownsOf.ownsL, enc, encV, encS])) fun x hp => ?_
  obtain ⟨(xs : List tPitch.den), _⟩ := x
  clear hp
  have htree : exFunc Try.prog C_Ha_10 false noL Try.f125 (encA [.v qPitch] (xs, ())) = .leaf [.int .i64 ((↑xs.length : Int))] := by kernel_rfl
  refine (congrArg (Tree.ok _) htree).mpr ?_
  clear htree
  simp [Tree.ok, tyd_inj, packAV, AV.same, AV.same.sameL, encV, encS, enc, inK, Nd.ok, List.headD_cons, List.cons_append, List.nil_append, List.append_nil, true_and, and_true, Bool.true_and, Bool.and_true]
def C_Ha_11 : FuncId → Option Ct := addC 125 ct_sizePitch C_Ha_10
theorem C_Ha_11_ok : COk Try.prog C_Ha_11 := addC_ok C_Ha_10_ok sat_sizePitch
def ct_sizeItem : Ct := ctOf [.v qItem] (fun _ => .tt) (fun ((xs : List tItem.den), _) => .int .i64 (xs.length : Int))
set_option maxHeartbeats 1000000 in
theorem sat_sizeItem : Sat Try.prog 111 ct_sizeItem := by
  refine sat_typed (C := C_Ha_11) (L := noL) (wr := false) mixedOk Try.func111 C_Ha_11_ok (loops0 (by kernel_rfl)) (fun _ => by first | rfl | (simp [ownsOf, ownsOf.ownsL, enc, encV, encS])) fun x hp => ?_
  obtain ⟨(xs : List tItem.den), _⟩ := x
  clear hp
  have htree : exFunc Try.prog C_Ha_11 false noL Try.f111 (encA [.v qItem] (xs, ())) = .leaf [.int .i64 ((↑xs.length : Int))] := by kernel_rfl
  refine (congrArg (Tree.ok _) htree).mpr ?_
  clear htree
  simp [Tree.ok, tyd_inj, packAV, AV.same, AV.same.sameL, encV, encS, enc, inK, Nd.ok, List.headD_cons, List.cons_append, List.nil_append, List.append_nil, true_and, and_true, Bool.true_and, Bool.and_true]
def C_Ha_12 : FuncId → Option Ct := addC 111 ct_sizeItem C_Ha_11
theorem C_Ha_12_ok : COk Try.prog C_Ha_12 := addC_ok C_Ha_11_ok sat_sizeItem
def ct_isLength : Ct := ctOf [.s tFrac] (fun _ => .tt) (fun (((a : Int), (b : Int)), _) => .bool (lenF a b))
set_option maxHeartbeats 1000000 in
theorem sat_isLength : Sat Try.prog 108 ct_isLength := by
  refine sat_typed (C := C_Ha_12) (L := noL) (wr := false) mixedOk Try.func108 C_Ha_12_ok (loops0 (by kernel_rfl)) (fun _ => by first | rfl | (simp [ownsOf, ownsOf.ownsL, enc, encV, encS])) fun x hp => ?_
  obtain ⟨⟨(a : Int), (b : Int)⟩, _⟩ := x
  clear hp
  have htree : exFunc Try.prog C_Ha_12 false noL Try.f108 (encA [.s tFrac] ((a, b), ())) = .ite (beatF a b) (.leaf [.bool (decide ((0 : Int) < a))]) (.leaf [.lit false]) := by kernel_rfl
  refine (congrArg (Tree.ok _) htree).mpr ?_
  clear htree
  simp only [Tree.ok, tyd_inj, packAV, AV.same, AV.same.sameL, encV, encS, enc, inK, Nd.ok, List.headD_cons, List.cons_append, List.nil_append, List.append_nil, true_and, and_true, Bool.true_and, Bool.and_true, lenF]
  repeat' first | apply And.intro | intro _
  all_goals first | trivial | simp_all
def C_Ha_13 : FuncId → Option Ct := addC 108 ct_isLength C_Ha_12
theorem C_Ha_13_ok : COk Try.prog C_Ha_13 := addC_ok C_Ha_12_ok sat_isLength
def ct_l19Length : Ct := ctOf [.s tFrac] (fun _ => .tt) (fun (((a : Int), (b : Int)), _) => .bool (lenF a b))
set_option maxHeartbeats 1000000 in
theorem sat_l19Length : Sat Try.prog 124 ct_l19Length := by
  refine sat_typed (C := C_Ha_13) (L := noL) (wr := false) mixedOk Try.func124 C_Ha_13_ok (loops0 (by kernel_rfl)) (fun _ => by first | rfl | (simp [ownsOf, ownsOf.ownsL, enc, encV, encS])) fun x hp => ?_
  obtain ⟨⟨(a : Int), (b : Int)⟩, _⟩ := x
  clear hp
  have htree : exFunc Try.prog C_Ha_13 false noL Try.f124 (encA [.s tFrac] ((a, b), ())) = .ite (okF a b) (.need ((1 : Int) ≤ b ∧ b ≤ (1000000 : Int)) (.ite (decide ((0 : Int) ≤ a) && decide (a ≤ (1000 : Int) * b)) (.leaf [.bool (decide ((0 : Int) < a))]) (.leaf [.lit false]))) (.leaf [.lit false]) := by kernel_rfl
  refine (congrArg (Tree.ok _) htree).mpr ?_
  clear htree
  have h1 := @okF_bd a b
  simp only [Tree.ok, tyd_inj, packAV, AV.same, AV.same.sameL, encV, encS, enc, inK, Nd.ok, List.headD_cons, List.cons_append, List.nil_append, List.append_nil, true_and, and_true, Bool.true_and, Bool.and_true, lenF, beatF]
  cases h0 : okF a b
  · simp
  · have h1 := h1 h0
    simp
    repeat' first | apply And.intro | intro _
    all_goals first | omega | trivial | (simp_all; done) | (simp_all; omega)
def C_Ha_14 : FuncId → Option Ct := addC 124 ct_l19Length C_Ha_13
theorem C_Ha_14_ok : COk Try.prog C_Ha_14 := addC_ok C_Ha_13_ok sat_l19Length
def ct_isGroup : Ct := ctOf [.s tItem] (fun _ => .tt) (fun (((k : Int), (ps : List tPitch.den), ((a : Int), (b : Int)), (v : Int), ((m1 : Int), (m2 : Int)), (z : Int)), _) => .bool (decide (k = 4) || decide (k = 5)))
set_option maxHeartbeats 1000000 in
theorem sat_isGroup : Sat Try.prog 46 ct_isGroup := by
  refine sat_typed (C := C_Ha_14) (L := noL) (wr := false) mixedOk Try.func46 C_Ha_14_ok (loops0 (by kernel_rfl)) (fun _ => by first | rfl | (simp [ownsOf, ownsOf.ownsL, enc, encV, encS])) fun x hp => ?_
  obtain ⟨⟨(k : Int), (ps : List tPitch.den), ⟨(a : Int), (b : Int)⟩, (v : Int), ⟨(m1 : Int), (m2 : Int)⟩, (z : Int)⟩, _⟩ := x
  clear hp
  have htree : exFunc Try.prog C_Ha_14 false noL Try.f46 (encA [.s tItem] ((k, ps, (a, b), v, (m1, m2), z), ())) = .ite (k == (4 : Int)) (.leaf [.lit true]) (.leaf [.bool (k == (5 : Int))]) := by kernel_rfl
  refine (congrArg (Tree.ok _) htree).mpr ?_
  clear htree
  by_cases k4 : k = 4
  · subst k4; simp [Tree.ok, tyd_inj, packAV, AV.same, AV.same.sameL, encV, encS, enc, inK, Nd.ok, List.headD_cons, List.cons_append, List.nil_append, List.append_nil, true_and, and_true, Bool.true_and, Bool.and_true]
  · by_cases k5 : k = 5
    · subst k5; simp [Tree.ok, tyd_inj, packAV, AV.same, AV.same.sameL, encV, encS, enc, inK, Nd.ok, List.headD_cons, List.cons_append, List.nil_append, List.append_nil, true_and, and_true, Bool.true_and, Bool.and_true]
    · simp [Tree.ok, tyd_inj, packAV, AV.same, AV.same.sameL, encV, encS, enc, inK, Nd.ok, List.headD_cons, List.cons_append, List.nil_append, List.append_nil, true_and, and_true, Bool.true_and, Bool.and_true, k4, k5]
def C_Ha_15 : FuncId → Option Ct := addC 46 ct_isGroup C_Ha_14
theorem C_Ha_15_ok : COk Try.prog C_Ha_15 := addC_ok C_Ha_14_ok sat_isGroup
def ct_l19Group : Ct := ctOf [.p tItem] (fun _ => .tt) (fun (((k : Int), (ps : List tPitch.den), ((a : Int), (b : Int)), (v : Int), ((m1 : Int), (m2 : Int)), (z : Int)), _) => .bool (decide (k = 4) || decide (k = 5)))
set_option maxHeartbeats 1000000 in
theorem sat_l19Group : Sat Try.prog 43 ct_l19Group := by
  refine sat_typed (C := C_Ha_15) (L := noL) (wr := false) mixedOk Try.func43 C_Ha_15_ok (loops0 (by kernel_rfl)) (fun _ => by first | rfl | (simp [ownsOf, ownsOf.ownsL, enc, encV, encS])) fun x hp => ?_
  obtain ⟨⟨(k : Int), (ps : List tPitch.den), ⟨(a : Int), (b : Int)⟩, (v : Int), ⟨(m1 : Int), (m2 : Int)⟩, (z : Int)⟩, _⟩ := x
  clear hp
  have htree : exFunc Try.prog C_Ha_15 false noL Try.f43 (encA [.p tItem] ((k, ps, (a, b), v, (m1, m2), z), ())) = .ite (k == (4 : Int)) (.leaf [.lit true]) (.leaf [.bool (k == (5 : Int))]) := by kernel_rfl
  refine (congrArg (Tree.ok _) htree).mpr ?_
  clear htree
  by_cases k4 : k = 4
  · subst k4; simp [Tree.ok, tyd_inj, packAV, AV.same, AV.same.sameL, encV, encS, enc, inK, Nd.ok, List.headD_cons, List.cons_append, List.nil_append, List.append_nil, true_and, and_true, Bool.true_and, Bool.and_true]
  · by_cases k5 : k = 5
    · subst k5; simp [Tree.ok, tyd_inj, packAV, AV.same, AV.same.sameL, encV, encS, enc, inK, Nd.ok, List.headD_cons, List.cons_append, List.nil_append, List.append_nil, true_and, and_true, Bool.true_and, Bool.and_true]
    · simp [Tree.ok, tyd_inj, packAV, AV.same, AV.same.sameL, encV, encS, enc, inK, Nd.ok, List.headD_cons, List.cons_append, List.nil_append, List.append_nil, true_and, and_true, Bool.true_and, Bool.and_true, k4, k5]
def C_Ha_16 : FuncId → Option Ct := addC 43 ct_l19Group C_Ha_15
theorem C_Ha_16_ok : COk Try.prog C_Ha_16 := addC_ok C_Ha_15_ok sat_l19Group
theorem p3 (x : tPitch.den) : ∃ s a o : Int, x = (s, a, o) := ⟨x.1, x.2.1, x.2.2, rfl⟩
def ann_areChord_0 : LAnn := { sameS := [0, 5, 6], modS := [2, 7], sameH := [], modH := [], base := 900000, nilE := [], nilB := [], G := fun
  | ⟨[.view (.pair (.int .i64) (.pair (.int .i64) (.int .i64))) zs, .view (.pair (.int .i64) (.pair (.int .i64) (.int .i64))) ps, .int .i64 n], [], [.bool r, .int .i64 i], []⟩ => some (.p (((0 ≤ i ∧ i ≤ n) ∧ n = (ps.length : Int) ∧ n ≤ 9223372036854775807 ∧ zs = ps) ∧ (0 < i → okPt (pAt ps (i.toNat - 1)) = true)), .ite (chGo ps (ps.length - i.toNat) i.toNat) (.leaf (.exit 0) [.bool r, .unk] []) (.leaf .ret [.bool false, .unk] []))
  | _ => none }
def ct_areChord : Ct := ctOf [.v qPitch] (fun ((ps : List tPitch.den), _) => .p (pLen ps ≤ 9223372036854775807)) (fun ((ps : List tPitch.den), _) => .bool (chordF ps))
set_option maxHeartbeats 1000000 in
theorem loop_areChord_0 : LoopSat Try.prog Try.f107.ntmps (loopAt Try.f107 0) ann_areChord_0 := by
  refine loopSat_of (C := C_Ha_16) (L := (addL (firstId (loopAt Try.f107 0)) ann_areChord_0 noL)) (wr := false) mixedOk C_Ha_16_ok (loopsIn0 (by kernel_rfl)) (fun d => match d.same, d.vals with | [_, _, .int _ n], [_, .int _ i] => (n - i).toNat | _, _ => 0) fun d p t hG hp => ?_
  simp only [ann_areChord_0] at hG
  split at hG
  rotate_left
  · simp at hG
  rename_i zs ps n r i
  simp only [Option.some.injEq, Prod.mk.injEq] at hG
  obtain ⟨rfl, rfl⟩ := hG
  have htree : exRound Try.prog C_Ha_16 false (addL (firstId (loopAt Try.f107 0)) ann_areChord_0 noL) Try.f107.ntmps ann_areChord_0 (loopAt Try.f107 0) ⟨[.view tPitch zs, .view tPitch ps, .int .i64 n], [], [.bool r, .int .i64 i], []⟩ = .ite (decide (i < n)) (.need ((0 : Int) ≤ i ∧ i < (↑ps.length : Int)) (.ite (!okP (getT tPitch ps i).fst (getT tPitch ps i).snd.fst (getT tPitch ps i).snd.snd) (.leaf (.ret, ⟨[.view (I64.pair (I64.pair I64)) (zs), .view (I64.pair (I64.pair I64)) (ps), .int .i64 (n)], [], [.bool (false), .int .i64 (i)], []⟩)) (.ite (decide ((0 : Int) < i)) (.need (inK IntKind.i64 (i - (1 : Int))) (.need ((0 : Int) ≤ i - (1 : Int) ∧ i - (1 : Int) < (↑zs.length : Int)) (.need (((0 : Int) ≤ (getT tPitch zs (i - (1 : Int))).fst ∧ (getT tPitch zs (i - (1 : Int))).fst ≤ (6 : Int)) ∧ ((-1000 : Int) ≤ (getT tPitch zs (i - (1 : Int))).snd.fst ∧ (getT tPitch zs (i - (1 : Int))).snd.fst ≤ (1000 : Int)) ∧ (-1000 : Int) ≤ (getT tPitch zs (i - (1 : Int))).snd.snd ∧ (getT tPitch zs (i - (1 : Int))).snd.snd ≤ (1000 : Int)) (.need (((0 : Int) ≤ (getT tPitch ps i).fst ∧ (getT tPitch ps i).fst ≤ (6 : Int)) ∧ ((-1000 : Int) ≤ (getT tPitch ps i).snd.fst ∧ (getT tPitch ps i).snd.fst ≤ (1000 : Int)) ∧ (-1000 : Int) ≤ (getT tPitch ps i).snd.snd ∧ (getT tPitch ps i).snd.snd ≤ (1000 : Int)) (.ite (decide (keyF (getT tPitch ps i).fst (getT tPitch ps i).snd.fst (getT tPitch ps i).snd.snd ≤ keyF (getT tPitch zs (i - (1 : Int))).fst (getT tPitch zs (i - (1 : Int))).snd.fst (getT tPitch zs (i - (1 : Int))).snd.snd)) (.leaf (.ret, ⟨[.view (I64.pair (I64.pair I64)) (zs), .view (I64.pair (I64.pair I64)) (ps), .int .i64 (n)], [], [.bool (false), .int .i64 (i)], []⟩)) (.need (inK IntKind.i64 (i + (1 : Int))) (.leaf (.normal, ⟨[.view (I64.pair (I64.pair I64)) (zs), .view (I64.pair (I64.pair I64)) (ps), .int .i64 (n)], [], [.bool (r), .int .i64 (i + (1 : Int))], []⟩)))))))) (.need (inK IntKind.i64 (i + (1 : Int))) (.leaf (.normal, ⟨[.view (I64.pair (I64.pair I64)) (zs), .view (I64.pair (I64.pair I64)) (ps), .int .i64 (n)], [], [.bool (r), .int .i64 (i + (1 : Int))], []⟩)))))) (.leaf ((.exit 0), ⟨[.view (I64.pair (I64.pair I64)) (zs), .view (I64.pair (I64.pair I64)) (ps), .int .i64 (n)], [], [.bool (r), .int .i64 (i)], []⟩)) := by kernel_rfl
  rw [htree]
  clear htree
  replace hp : ((0 ≤ i ∧ i ≤ n) ∧ n = (ps.length : Int) ∧ n ≤ 9223372036854775807 ∧ zs = ps) ∧ (0 < i → okPt (pAt ps (i.toNat - 1)) = true) := hp
  obtain ⟨⟨hi, hn, hl, rfl⟩, hb⟩ := hp
  simp only [Tree.ok, tyd_inj, packAV, AV.same, AV.same.sameL, encV, encS, enc, inK, Nd.ok, List.headD_cons, List.cons_append, List.nil_append, List.append_nil, true_and, and_true, Bool.true_and, Bool.and_true, loop_next, weakBs_nil, weakBs_cons, weakB_self, weakB_row, weakB_int, weakL_nil, weakL_unk, weakL_guess, isRow_own, isRow_unk, weakL_int, weakL_bool, weakL_str, weakL_own, weakL_view, weakL_nilS, noRow_int, noRow_bool, own_inj, LTree.val, cond_true, cond_false, Prod.mk.injEq, List.cons.injEq, AV.int.injEq, AV.bool.injEq, AV.str.injEq, AV.agg.injEq, ann_areChord_0, decide_eq_true_eq, decide_eq_false_iff_not, Bool.not_eq_true', Bool.not_eq_false']
  simp only [getT]
  refine ⟨fun ha => ?_, fun ha => ?_⟩
  · have h1 := chGo_go zs i.toNat (by omega)
    rw [show (i + 1).toNat = i.toNat + 1 by omega, show (i - 1).toNat = i.toNat - 1 by omega, h1, Nat.add_sub_cancel]
    clear h1
    unfold pAt at *
    obtain ⟨s, a, o, he⟩ := p3 (zs.getD i.toNat tPitch.zero)
    obtain ⟨s', a', o', he'⟩ := p3 (zs.getD (i.toNat - 1) tPitch.zero)
    simp only [he, he', okPt, keyP] at hb ⊢
    have g1 := @okP_bd s a o
    have g2 := @okP_bd s' a' o'
    generalize chGo zs (zs.length - (i.toNat + 1)) (i.toNat + 1) = R
    cases hk : okP s a o
    · simp only [Bool.false_and]
      repeat' first | apply And.intro | intro _
      all_goals first | omega | trivial | rfl | contradiction | (simp [Tree.ok, tyd_inj, packAV, AV.same, AV.same.sameL, encV, encS, enc, inK, Nd.ok, List.headD_cons, List.cons_append, List.nil_append, List.append_nil, true_and, and_true, Bool.true_and, Bool.and_true, loop_next, weakBs_nil, weakBs_cons, weakB_self, weakB_row, weakB_int, weakL_nil, weakL_unk, weakL_guess, isRow_own, isRow_unk, weakL_int, weakL_bool, weakL_str, weakL_own, weakL_view, weakL_nilS, noRow_int, noRow_bool, own_inj, LTree.val, cond_true, cond_false, Prod.mk.injEq, List.cons.injEq, AV.int.injEq, AV.bool.injEq, AV.str.injEq, AV.agg.injEq]; done)
    · have g1 := g1 hk
      have g3 : (0 ≤ s ∧ s ≤ 6) ∧ (-1000 ≤ a ∧ a ≤ 1000) ∧ (-1000 ≤ o ∧ o ≤ 1000) := by omega
      by_cases h0 : i = 0
      · subst h0
        simp only [show (0 : Int).toNat = 0 from rfl, decide_true, Bool.true_or, Bool.true_and]
        repeat' first | apply And.intro | intro _
        all_goals first | omega | trivial | rfl | contradiction | assumption | (simp at *; done)
      · have g2 := g2 (hb (by omega))
        have g4 : (0 ≤ s' ∧ s' ≤ 6) ∧ (-1000 ≤ a' ∧ a' ≤ 1000) ∧ (-1000 ≤ o' ∧ o' ≤ 1000) := by omega
        simp only [show ¬ i.toNat = 0 by omega, decide_false, Bool.false_or, Bool.true_and]
        by_cases hc : keyF s' a' o' < keyF s a o
        · simp only [hc, decide_true, Bool.true_and]
          repeat' first | apply And.intro | intro _
          all_goals first | omega | exact g3.1.1 | exact g3.1.2 | exact g3.2.1.1 | exact g3.2.1.2 | exact g3.2.2.1 | exact g3.2.2.2 | exact g4.1.1 | exact g4.1.2 | exact g4.2.1.1 | exact g4.2.1.2 | exact g4.2.2.1 | exact g4.2.2.2 | trivial | rfl | contradiction | assumption | (simp at *; done)
        · simp only [hc, decide_false, Bool.false_and]
          repeat' first | apply And.intro | intro _
          all_goals first | omega | exact g3.1.1 | exact g3.1.2 | exact g3.2.1.1 | exact g3.2.1.2 | exact g3.2.2.1 | exact g3.2.2.2 | exact g4.1.1 | exact g4.1.2 | exact g4.2.1.1 | exact g4.2.1.2 | exact g4.2.2.1 | exact g4.2.2.2 | trivial | rfl | contradiction | assumption | (simp [Tree.ok, tyd_inj, packAV, AV.same, AV.same.sameL, encV, encS, enc, inK, Nd.ok, List.headD_cons, List.cons_append, List.nil_append, List.append_nil, true_and, and_true, Bool.true_and, Bool.and_true, loop_next, weakBs_nil, weakBs_cons, weakB_self, weakB_row, weakB_int, weakL_nil, weakL_unk, weakL_guess, isRow_own, isRow_unk, weakL_int, weakL_bool, weakL_str, weakL_own, weakL_view, weakL_nilS, noRow_int, noRow_bool, own_inj, LTree.val, cond_true, cond_false, Prod.mk.injEq, List.cons.injEq, AV.int.injEq, AV.bool.injEq, AV.str.injEq, AV.agg.injEq]; done) | (simp at *; omega)
  · rw [show zs.length - i.toNat = 0 by omega]
    simp [Tree.ok, tyd_inj, packAV, AV.same, AV.same.sameL, encV, encS, enc, inK, Nd.ok, List.headD_cons, List.cons_append, List.nil_append, List.append_nil, true_and, and_true, Bool.true_and, Bool.and_true, loop_next, weakBs_nil, weakBs_cons, weakB_self, weakB_row, weakB_int, weakL_nil, weakL_unk, weakL_guess, isRow_own, isRow_unk, weakL_int, weakL_bool, weakL_str, weakL_own, weakL_view, weakL_nilS, noRow_int, noRow_bool, own_inj, LTree.val, cond_true, cond_false, Prod.mk.injEq, List.cons.injEq, AV.int.injEq, AV.bool.injEq, AV.str.injEq, AV.agg.injEq, chGo]
theorem loops_areChord : ∀ c, Try.f107.body = some c → LoopsOk Try.prog (addL (firstId (loopAt Try.f107 0)) ann_areChord_0 noL) Try.f107.ntmps c := loopsN fun i hi ann h => by
  have hn : loopN Try.f107 = 1 := by kernel_rfl
  rw [hn] at hi
  exact match i, hi, h with
    | 0, _, h => (Option.some.inj ((show (addL (firstId (loopAt Try.f107 0)) ann_areChord_0 noL) (firstId (loopAt Try.f107 0)) = some ann_areChord_0 from by kernel_rfl).symm.trans h)) ▸ loop_areChord_0
set_option maxHeartbeats 1000000 in
theorem sat_areChord : Sat Try.prog 107 ct_areChord := by
  refine sat_typed (C := C_Ha_16) (L := (addL (firstId (loopAt Try.f107 0)) ann_areChord_0 noL)) (wr := false) mixedOk Try.func107 C_Ha_16_ok (loops_areChord) (fun _ => by first | rfl | (simp [ownsOf, ownsOf.ownsL, enc, encV, encS])) fun x hp => ?_
  obtain ⟨(ps : List tPitch.den), _⟩ := x
  replace hp : pLen ps ≤ 9223372036854775807 := hp
  have htree : exFunc Try.prog C_Ha_16 false (addL (firstId (loopAt Try.f107 0)) ann_areChord_0 noL) Try.f107 (encA [.v qPitch] (ps, ())) = .need ((((0 : Int) ≤ (0 : Int) ∧ (0 : Int) ≤ (↑ps.length : Int)) ∧ (↑ps.length : Int) = (↑ps.length : Int) ∧ (↑ps.length : Int) ≤ (9223372036854775807 : Int) ∧ ps = ps) ∧ ((0 : Int) < (0 : Int) → okPt (pAt ps (Int.toNat (0 : Int) - (1 : Nat))) = true)) (.ite (chGo ps (ps.length - Int.toNat (0 : Int)) (Int.toNat (0 : Int))) (.leaf [.bool (inB (↑ps.length : Int) (1 : Int) (6 : Int))]) (.leaf [.bool (false)])) := by kernel_rfl
  refine (congrArg (Tree.ok _) htree).mpr ?_
  clear htree
  simp only [Tree.ok, tyd_inj, packAV, AV.same, AV.same.sameL, encV, encS, enc, inK, Nd.ok, List.headD_cons, List.cons_append, List.nil_append, List.append_nil, true_and, and_true, Bool.true_and, Bool.and_true, chordF, pLen] at hp ⊢
  cases h : chGo ps ps.length 0
  all_goals
    simp [h]
    try omega
def C_Ha_17 : FuncId → Option Ct := addC 107 ct_areChord C_Ha_16
theorem C_Ha_17_ok : COk Try.prog C_Ha_17 := addC_ok C_Ha_16_ok sat_areChord
def ann_l19Chord_0 : LAnn := { sameS := [0], modS := [2, 3], sameH := [], modH := [], base := 900000, nilE := [], nilB := [], G := fun
  | ⟨[.view (.pair (.int .i64) (.pair (.int .i64) (.int .i64))) zs], [], [.bool r, .int .i64 i], []⟩ => some (.p (((0 ≤ i ∧ i ≤ (zs.length : Int)) ∧ (zs.length : Int) ≤ 9223372036854775807) ∧ (0 < i → okPt (pAt zs (i.toNat - 1)) = true)), .ite (chGo zs (zs.length - i.toNat) i.toNat) (.leaf (.exit 0) [.bool r, .unk] []) (.leaf .ret [.bool false, .unk] []))
  | _ => none }
def ct_l19Chord : Ct := ctOf [.v qPitch] (fun ((ps : List tPitch.den), _) => .p (pLen ps ≤ 9223372036854775807)) (fun ((ps : List tPitch.den), _) => .bool (chordF ps))
set_option maxHeartbeats 1000000 in
theorem loop_l19Chord_0 : LoopSat Try.prog Try.f123.ntmps (loopAt Try.f123 0) ann_l19Chord_0 := by
  refine loopSat_of (C := C_Ha_17) (L := (addL (firstId (loopAt Try.f123 0)) ann_l19Chord_0 noL)) (wr := false) mixedOk C_Ha_17_ok (loopsIn0 (by kernel_rfl)) (fun d => match d.same, d.vals with | [.view _ zs], [_, .int _ i] => ((zs.length : Int) - i).toNat | _, _ => 0) fun d p t hG hp => ?_
  simp only [ann_l19Chord_0] at hG
  split at hG
  rotate_left
  · simp at hG
  rename_i zs r i
  simp only [Option.some.injEq, Prod.mk.injEq] at hG
  obtain ⟨rfl, rfl⟩ := hG
  have htree : exRound Try.prog C_Ha_17 false (addL (firstId (loopAt Try.f123 0)) ann_l19Chord_0 noL) Try.f123.ntmps ann_l19Chord_0 (loopAt Try.f123 0) ⟨[.view tPitch zs], [], [.bool r, .int .i64 i], []⟩ = .ite (decide (i < (↑zs.length : Int))) (.need ((0 : Int) ≤ i ∧ i < (↑zs.length : Int)) (.ite (!okP (getT tPitch zs i).fst (getT tPitch zs i).snd.fst (getT tPitch zs i).snd.snd) (.leaf (.ret, ⟨[.view (I64.pair (I64.pair I64)) (zs)], [], [.bool (false), .int .i64 (i)], []⟩)) (.ite (decide ((0 : Int) < i)) (.need (inK IntKind.i64 (i - (1 : Int))) (.need ((0 : Int) ≤ i - (1 : Int) ∧ i - (1 : Int) < (↑zs.length : Int)) (.need (((0 : Int) ≤ (getT tPitch zs (i - (1 : Int))).fst ∧ (getT tPitch zs (i - (1 : Int))).fst ≤ (6 : Int)) ∧ ((-1000 : Int) ≤ (getT tPitch zs (i - (1 : Int))).snd.fst ∧ (getT tPitch zs (i - (1 : Int))).snd.fst ≤ (1000 : Int)) ∧ (-1000 : Int) ≤ (getT tPitch zs (i - (1 : Int))).snd.snd ∧ (getT tPitch zs (i - (1 : Int))).snd.snd ≤ (1000 : Int)) (.need ((0 : Int) ≤ i ∧ i < (↑zs.length : Int)) (.need (((0 : Int) ≤ (getT tPitch zs i).fst ∧ (getT tPitch zs i).fst ≤ (6 : Int)) ∧ ((-1000 : Int) ≤ (getT tPitch zs i).snd.fst ∧ (getT tPitch zs i).snd.fst ≤ (1000 : Int)) ∧ (-1000 : Int) ≤ (getT tPitch zs i).snd.snd ∧ (getT tPitch zs i).snd.snd ≤ (1000 : Int)) (.ite (decide (keyF (getT tPitch zs i).fst (getT tPitch zs i).snd.fst (getT tPitch zs i).snd.snd ≤ keyF (getT tPitch zs (i - (1 : Int))).fst (getT tPitch zs (i - (1 : Int))).snd.fst (getT tPitch zs (i - (1 : Int))).snd.snd)) (.leaf (.ret, ⟨[.view (I64.pair (I64.pair I64)) (zs)], [], [.bool (false), .int .i64 (i)], []⟩)) (.need (inK IntKind.i64 (i + (1 : Int))) (.leaf (.normal, ⟨[.view (I64.pair (I64.pair I64)) (zs)], [], [.bool (r), .int .i64 (i + (1 : Int))], []⟩))))))))) (.need (inK IntKind.i64 (i + (1 : Int))) (.leaf (.normal, ⟨[.view (I64.pair (I64.pair I64)) (zs)], [], [.bool (r), .int .i64 (i + (1 : Int))], []⟩)))))) (.leaf ((.exit 0), ⟨[.view (I64.pair (I64.pair I64)) (zs)], [], [.bool (r), .int .i64 (i)], []⟩)) := by kernel_rfl
  rw [htree]
  clear htree
  replace hp : ((0 ≤ i ∧ i ≤ (zs.length : Int)) ∧ (zs.length : Int) ≤ 9223372036854775807) ∧ (0 < i → okPt (pAt zs (i.toNat - 1)) = true) := hp
  obtain ⟨⟨hi, hl⟩, hb⟩ := hp
  simp only [Tree.ok, tyd_inj, packAV, AV.same, AV.same.sameL, encV, encS, enc, inK, Nd.ok, List.headD_cons, List.cons_append, List.nil_append, List.append_nil, true_and, and_true, Bool.true_and, Bool.and_true, loop_next, weakBs_nil, weakBs_cons, weakB_self, weakB_row, weakB_int, weakL_nil, weakL_unk, weakL_guess, isRow_own, isRow_unk, weakL_int, weakL_bool, weakL_str, weakL_own, weakL_view, weakL_nilS, noRow_int, noRow_bool, own_inj, LTree.val, cond_true, cond_false, Prod.mk.injEq, List.cons.injEq, AV.int.injEq, AV.bool.injEq, AV.str.injEq, AV.agg.injEq, ann_l19Chord_0, decide_eq_true_eq, decide_eq_false_iff_not, Bool.not_eq_true', Bool.not_eq_false']
  simp only [getT]
  refine ⟨fun ha => ?_, fun ha => ?_⟩
  · have h1 := chGo_go zs i.toNat (by omega)
    rw [show (i + 1).toNat = i.toNat + 1 by omega, show (i - 1).toNat = i.toNat - 1 by omega, h1, Nat.add_sub_cancel]
    clear h1
    unfold pAt at *
    obtain ⟨s, a, o, he⟩ := p3 (zs.getD i.toNat tPitch.zero)
    obtain ⟨s', a', o', he'⟩ := p3 (zs.getD (i.toNat - 1) tPitch.zero)
    simp only [he, he', okPt, keyP] at hb ⊢
    have g1 := @okP_bd s a o
    have g2 := @okP_bd s' a' o'
    generalize chGo zs (zs.length - (i.toNat + 1)) (i.toNat + 1) = R
    cases hk : okP s a o
    · simp only [Bool.false_and]
      repeat' first | apply And.intro | intro _
      all_goals first | omega | trivial | rfl | contradiction | (simp [Tree.ok, tyd_inj, packAV, AV.same, AV.same.sameL, encV, encS, enc, inK, Nd.ok, List.headD_cons, List.cons_append, List.nil_append, List.append_nil, true_and, and_true, Bool.true_and, Bool.and_true, loop_next, weakBs_nil, weakBs_cons, weakB_self, weakB_row, weakB_int, weakL_nil, weakL_unk, weakL_guess, isRow_own, isRow_unk, weakL_int, weakL_bool, weakL_str, weakL_own, weakL_view, weakL_nilS, noRow_int, noRow_bool, own_inj, LTree.val, cond_true, cond_false, Prod.mk.injEq, List.cons.injEq, AV.int.injEq, AV.bool.injEq, AV.str.injEq, AV.agg.injEq]; done)
    · have g1 := g1 hk
      have g3 : (0 ≤ s ∧ s ≤ 6) ∧ (-1000 ≤ a ∧ a ≤ 1000) ∧ (-1000 ≤ o ∧ o ≤ 1000) := by omega
      by_cases h0 : i = 0
      · subst h0
        simp only [show (0 : Int).toNat = 0 from rfl, decide_true, Bool.true_or, Bool.true_and]
        repeat' first | apply And.intro | intro _
        all_goals first | omega | trivial | rfl | contradiction | assumption | (simp at *; done)
      · have g2 := g2 (hb (by omega))
        have g4 : (0 ≤ s' ∧ s' ≤ 6) ∧ (-1000 ≤ a' ∧ a' ≤ 1000) ∧ (-1000 ≤ o' ∧ o' ≤ 1000) := by omega
        simp only [show ¬ i.toNat = 0 by omega, decide_false, Bool.false_or, Bool.true_and]
        by_cases hc : keyF s' a' o' < keyF s a o
        · simp only [hc, decide_true, Bool.true_and]
          repeat' first | apply And.intro | intro _
          all_goals first | omega | exact g3.1.1 | exact g3.1.2 | exact g3.2.1.1 | exact g3.2.1.2 | exact g3.2.2.1 | exact g3.2.2.2 | exact g4.1.1 | exact g4.1.2 | exact g4.2.1.1 | exact g4.2.1.2 | exact g4.2.2.1 | exact g4.2.2.2 | trivial | rfl | contradiction | assumption | (simp at *; done)
        · simp only [hc, decide_false, Bool.false_and]
          repeat' first | apply And.intro | intro _
          all_goals first | omega | exact g3.1.1 | exact g3.1.2 | exact g3.2.1.1 | exact g3.2.1.2 | exact g3.2.2.1 | exact g3.2.2.2 | exact g4.1.1 | exact g4.1.2 | exact g4.2.1.1 | exact g4.2.1.2 | exact g4.2.2.1 | exact g4.2.2.2 | trivial | rfl | contradiction | assumption | (simp [Tree.ok, tyd_inj, packAV, AV.same, AV.same.sameL, encV, encS, enc, inK, Nd.ok, List.headD_cons, List.cons_append, List.nil_append, List.append_nil, true_and, and_true, Bool.true_and, Bool.and_true, loop_next, weakBs_nil, weakBs_cons, weakB_self, weakB_row, weakB_int, weakL_nil, weakL_unk, weakL_guess, isRow_own, isRow_unk, weakL_int, weakL_bool, weakL_str, weakL_own, weakL_view, weakL_nilS, noRow_int, noRow_bool, own_inj, LTree.val, cond_true, cond_false, Prod.mk.injEq, List.cons.injEq, AV.int.injEq, AV.bool.injEq, AV.str.injEq, AV.agg.injEq]; done) | (simp at *; omega)
  · rw [show zs.length - i.toNat = 0 by omega]
    simp [Tree.ok, tyd_inj, packAV, AV.same, AV.same.sameL, encV, encS, enc, inK, Nd.ok, List.headD_cons, List.cons_append, List.nil_append, List.append_nil, true_and, and_true, Bool.true_and, Bool.and_true, loop_next, weakBs_nil, weakBs_cons, weakB_self, weakB_row, weakB_int, weakL_nil, weakL_unk, weakL_guess, isRow_own, isRow_unk, weakL_int, weakL_bool, weakL_str, weakL_own, weakL_view, weakL_nilS, noRow_int, noRow_bool, own_inj, LTree.val, cond_true, cond_false, Prod.mk.injEq, List.cons.injEq, AV.int.injEq, AV.bool.injEq, AV.str.injEq, AV.agg.injEq, chGo]
theorem loops_l19Chord : ∀ c, Try.f123.body = some c → LoopsOk Try.prog (addL (firstId (loopAt Try.f123 0)) ann_l19Chord_0 noL) Try.f123.ntmps c := loopsN fun i hi ann h => by
  have hn : loopN Try.f123 = 1 := by kernel_rfl
  rw [hn] at hi
  exact match i, hi, h with
    | 0, _, h => (Option.some.inj ((show (addL (firstId (loopAt Try.f123 0)) ann_l19Chord_0 noL) (firstId (loopAt Try.f123 0)) = some ann_l19Chord_0 from by kernel_rfl).symm.trans h)) ▸ loop_l19Chord_0
set_option maxHeartbeats 1000000 in
theorem sat_l19Chord : Sat Try.prog 123 ct_l19Chord := by
  refine sat_typed (C := C_Ha_17) (L := (addL (firstId (loopAt Try.f123 0)) ann_l19Chord_0 noL)) (wr := false) mixedOk Try.func123 C_Ha_17_ok (loops_l19Chord) (fun _ => by first | rfl | (simp [ownsOf, ownsOf.ownsL, enc, encV, encS])) fun x hp => ?_
  obtain ⟨(ps : List tPitch.den), _⟩ := x
  replace hp : pLen ps ≤ 9223372036854775807 := hp
  have htree : exFunc Try.prog C_Ha_17 false (addL (firstId (loopAt Try.f123 0)) ann_l19Chord_0 noL) Try.f123 (encA [.v qPitch] (ps, ())) = .need ((((0 : Int) ≤ (0 : Int) ∧ (0 : Int) ≤ (↑ps.length : Int)) ∧ (↑ps.length : Int) ≤ (9223372036854775807 : Int)) ∧ ((0 : Int) < (0 : Int) → okPt (pAt ps (Int.toNat (0 : Int) - (1 : Nat))) = true)) (.ite (chGo ps (ps.length - Int.toNat (0 : Int)) (Int.toNat (0 : Int))) (.ite (decide ((1 : Int) ≤ (↑ps.length : Int))) (.leaf [.bool (decide ((↑ps.length : Int) ≤ (6 : Int)))]) (.leaf [.lit false])) (.leaf [.bool (false)])) := by kernel_rfl
  refine (congrArg (Tree.ok _) htree).mpr ?_
  clear htree
  have hi := inB_iff (pLen ps) 1 6
  simp only [Tree.ok, tyd_inj, packAV, AV.same, AV.same.sameL, encV, encS, enc, inK, Nd.ok, List.headD_cons, List.cons_append, List.nil_append, List.append_nil, true_and, and_true, Bool.true_and, Bool.and_true, chordF, pLen] at hp hi ⊢
  cases h : chGo ps ps.length 0
  all_goals
    simp [h]
    try omega
  try (cases hq : inB (ps.length : Int) 1 6 <;> simp [hq] at hi ⊢ <;> omega)
def C_Ha_18 : FuncId → Option Ct := addC 123 ct_l19Chord C_Ha_17
theorem C_Ha_18_ok : COk Try.prog C_Ha_18 := addC_ok C_Ha_17_ok sat_l19Chord
def itS (k : Int) (ps : List tPitch.den) (a b v m1 m2 z : Int) : Bool := decide ((k = 1 ∧ chordF ps = true ∧ lenF a b = true ∧ v = 0 ∧ (m1 = 0 ∧ m2 = 0) ∧ z = 0) ∨ (k = 2 ∧ pLen ps = 0 ∧ lenF a b = true ∧ v = 0 ∧ (m1 = 0 ∧ m2 = 0) ∧ z = 0) ∨ (k = 3 ∧ pLen ps = 0 ∧ (a = 0 ∧ b = 0) ∧ inB v 1 127 = true ∧ (m1 = 0 ∧ m2 = 0) ∧ z = 0) ∨ (k = 4 ∧ pLen ps = 0 ∧ (a = 0 ∧ b = 0) ∧ inB v 2 8 = true ∧ (m1 = 0 ∧ m2 = 0)) ∨ (k = 5 ∧ pLen ps = 0 ∧ (a = 0 ∧ b = 0) ∧ v = 0 ∧ okI m1 m2 = true))
def itI (k : Int) (ps : List tPitch.den) (a b v m1 m2 z : Int) : Bool := itS k ps a b v m1 m2 z && (!(decide (k = 4) || decide (k = 5)) || decide (1 ≤ z))
theorem pLen_zero (ps : List tPitch.den) : pLen ps = 0 ↔ ps = [] := by simp [pLen, List.length_eq_zero_iff]
def ct_isItem : Ct := ctOf [.s tItem] (fun (((k : Int), (ps : List tPitch.den), ((a : Int), (b : Int)), (v : Int), ((m1 : Int), (m2 : Int)), (z : Int)), _) => .p (pLen ps ≤ 9223372036854775807)) (fun (((k : Int), (ps : List tPitch.den), ((a : Int), (b : Int)), (v : Int), ((m1 : Int), (m2 : Int)), (z : Int)), _) => .bool (itI k ps a b v m1 m2 z))
set_option maxHeartbeats 1000000 in
theorem sat_isItem : Sat Try.prog 72 ct_isItem := by
  refine sat_typed (C := C_Ha_18) (L := noL) (wr := false) mixedOk Try.func72 C_Ha_18_ok (loops0 (by kernel_rfl)) (fun _ => by first | rfl | (simp [ownsOf, ownsOf.ownsL, enc, encV, encS])) fun x hp => ?_
  obtain ⟨⟨(k : Int), (ps : List tPitch.den), ⟨(a : Int), (b : Int)⟩, (v : Int), ⟨(m1 : Int), (m2 : Int)⟩, (z : Int)⟩, _⟩ := x
  replace hp : pLen ps ≤ 9223372036854775807 := hp
  have htree : exFunc Try.prog C_Ha_18 false noL Try.f72 (encA [.s tItem] ((k, ps, (a, b), v, (m1, m2), z), ())) = .ite (k == (1 : Int)) (.need (pLen ps ≤ (9223372036854775807 : Int)) (.ite (!chordF ps) (.leaf [.lit false]) (.ite (!lenF a b) (.leaf [.lit false]) (.need (pLen ps ≤ (9223372036854775807 : Int)) (.leaf [.bool (decide ((k, ps, (a, b), v, (m1, m2), z) = (k, ps, (a, b), (0 : Int), ((0 : Int), (0 : Int)), (0 : Int))))]))))) (.ite (k == (2 : Int)) (.ite (!lenF a b) (.leaf [.lit false]) (.need (pLen ps ≤ (9223372036854775807 : Int)) (.leaf [.bool (decide ((k, ps, (a, b), v, (m1, m2), z) = (k, [], (a, b), (0 : Int), ((0 : Int), (0 : Int)), (0 : Int))))]))) (.ite (k == (3 : Int)) (.ite (!inB v (1 : Int) (127 : Int)) (.leaf [.lit false]) (.need (pLen ps ≤ (9223372036854775807 : Int)) (.leaf [.bool (decide ((k, ps, (a, b), v, (m1, m2), z) = (k, [], ((0 : Int), (0 : Int)), v, ((0 : Int), (0 : Int)), (0 : Int))))]))) (.ite (k == (4 : Int)) (.ite (!inB v (2 : Int) (8 : Int)) (.leaf [.lit false]) (.ite (decide (z < (1 : Int))) (.leaf [.lit false]) (.need (pLen ps ≤ (9223372036854775807 : Int)) (.leaf [.bool (decide ((k, ps, (a, b), v, (m1, m2), z) = (k, [], ((0 : Int), (0 : Int)), v, ((0 : Int), (0 : Int)), z)))])))) (.ite (k == (5 : Int)) (.ite (!okI m1 m2) (.leaf [.lit false]) (.ite (decide (z < (1 : Int))) (.leaf [.lit false]) (.need (pLen ps ≤ (9223372036854775807 : Int)) (.leaf [.bool (decide ((k, ps, (a, b), v, (m1, m2), z) = (k, [], ((0 : Int), (0 : Int)), (0 : Int), (m1, m2), z)))])))) (.leaf [.lit false]))))) := by kernel_rfl
  refine (congrArg (Tree.ok _) htree).mpr ?_
  clear htree
  have hz := pLen_zero ps
  simp only [Tree.ok, tyd_inj, packAV, AV.same, AV.same.sameL, encV, encS, enc, inK, Nd.ok, List.headD_cons, List.cons_append, List.nil_append, List.append_nil, true_and, and_true, Bool.true_and, Bool.and_true, itI, itS, Prod.mk.injEq, beq_iff_eq, beq_eq_false_iff_ne, ne_eq]
  by_cases k1 : k = 1
  · subst k1; simp; grind
  · by_cases k2 : k = 2
    · subst k2; simp; grind
    · by_cases k3 : k = 3
      · subst k3; simp; grind
      · by_cases k4 : k = 4
        · subst k4; simp; grind
        · by_cases k5 : k = 5
          · subst k5; simp; grind
          · simp [k1, k2, k3, k4, k5]
def C_Ha_19 : FuncId → Option Ct := addC 72 ct_isItem C_Ha_18
theorem C_Ha_19_ok : COk Try.prog C_Ha_19 := addC_ok C_Ha_18_ok sat_isItem
def ct_l19Item : Ct := ctOf [.p tItem] (fun (((k : Int), (ps : List tPitch.den), ((a : Int), (b : Int)), (v : Int), ((m1 : Int), (m2 : Int)), (z : Int)), _) => .p (pLen ps ≤ 9223372036854775807)) (fun (((k : Int), (ps : List tPitch.den), ((a : Int), (b : Int)), (v : Int), ((m1 : Int), (m2 : Int)), (z : Int)), _) => .bool (itS k ps a b v m1 m2 z))
set_option maxHeartbeats 1000000 in
theorem sat_l19Item : Sat Try.prog 103 ct_l19Item := by
  refine sat_typed (C := C_Ha_19) (L := noL) (wr := false) mixedOk Try.func103 C_Ha_19_ok (loops0 (by kernel_rfl)) (fun _ => by first | rfl | (simp [ownsOf, ownsOf.ownsL, enc, encV, encS])) fun x hp => ?_
  obtain ⟨⟨(k : Int), (ps : List tPitch.den), ⟨(a : Int), (b : Int)⟩, (v : Int), ⟨(m1 : Int), (m2 : Int)⟩, (z : Int)⟩, _⟩ := x
  replace hp : pLen ps ≤ 9223372036854775807 := hp
  have htree : exFunc Try.prog C_Ha_19 false noL Try.f103 (encA [.p tItem] ((k, ps, (a, b), v, (m1, m2), z), ())) = .ite (k == (1 : Int)) (.need (pLen ps ≤ (9223372036854775807 : Int)) (.ite (chordF ps) (.ite (lenF a b) (.ite (v == (0 : Int)) (.ite (m1 == (0 : Int) && m2 == (0 : Int)) (.leaf [.bool (z == (0 : Int))]) (.leaf [.lit false])) (.leaf [.lit false])) (.leaf [.lit false])) (.leaf [.lit false]))) (.ite (k == (2 : Int)) (.ite ((↑ps.length : Int) == (0 : Int)) (.ite (lenF a b) (.ite (v == (0 : Int)) (.ite (m1 == (0 : Int) && m2 == (0 : Int)) (.leaf [.bool (z == (0 : Int))]) (.leaf [.lit false])) (.leaf [.lit false])) (.leaf [.lit false])) (.leaf [.lit false])) (.ite (k == (3 : Int)) (.ite ((↑ps.length : Int) == (0 : Int)) (.ite (a == (0 : Int) && b == (0 : Int)) (.ite (inB v (1 : Int) (127 : Int)) (.ite (m1 == (0 : Int) && m2 == (0 : Int)) (.leaf [.bool (z == (0 : Int))]) (.leaf [.lit false])) (.leaf [.lit false])) (.leaf [.lit false])) (.leaf [.lit false])) (.ite (k == (4 : Int)) (.ite ((↑ps.length : Int) == (0 : Int)) (.ite (a == (0 : Int) && b == (0 : Int)) (.ite (inB v (2 : Int) (8 : Int)) (.leaf [.bool (m1 == (0 : Int) && m2 == (0 : Int))]) (.leaf [.lit false])) (.leaf [.lit false])) (.leaf [.lit false])) (.ite (k == (5 : Int)) (.ite ((↑ps.length : Int) == (0 : Int)) (.ite (a == (0 : Int) && b == (0 : Int)) (.ite (v == (0 : Int)) (.leaf [.bool (okI m1 m2)]) (.leaf [.lit false])) (.leaf [.lit false])) (.leaf [.lit false])) (.leaf [.lit false]))))) := by kernel_rfl
  refine (congrArg (Tree.ok _) htree).mpr ?_
  clear htree
  simp only [Tree.ok, tyd_inj, packAV, AV.same, AV.same.sameL, encV, encS, enc, inK, Nd.ok, List.headD_cons, List.cons_append, List.nil_append, List.append_nil, true_and, and_true, Bool.true_and, Bool.and_true, itS, pLen, Prod.mk.injEq, beq_iff_eq, beq_eq_false_iff_ne, ne_eq] at hp ⊢
  by_cases k1 : k = 1
  · subst k1; simp; grind
  · by_cases k2 : k = 2
    · subst k2; simp; grind
    · by_cases k3 : k = 3
      · subst k3; simp; grind
      · by_cases k4 : k = 4
        · subst k4; simp; grind
        · by_cases k5 : k = 5
          · subst k5; simp; grind
          · simp [k1, k2, k3, k4, k5]
def C_Ha_20 : FuncId → Option Ct := addC 103 ct_l19Item C_Ha_19
theorem C_Ha_20_ok : COk Try.prog C_Ha_20 := addC_ok C_Ha_19_ok sat_l19Item

def C_Ha : FuncId → Option Ct := C_Ha_20
theorem C_Ha_ok : COk Try.prog C_Ha := C_Ha_20_ok
end Go.Proofs.Ytemlpimibhijoaa
