/- Contracts: the pitch with a key, of the program and the reference. Conditions: as each says. -/
import Derived.Test.YtemlpimibhijoaaHa
set_option linter.unusedSimpArgs false
set_option linter.unusedVariables false
namespace Go.Proofs.Ytemlpimibhijoaa
open Go.RowKit Sx
set_option maxRecDepth 100000
set_option maxHeartbeats 1000000
def ct_floorDiv : Ct := ctOf [.v (.int .i64), .v (.int .i64)] (fun ((a : Int), (b : Int), _) => .p (1 ≤ b ∧ -9223372036854775807 ≤ a ∧ a ≤ 9223372036854775807)) (fun ((a : Int), (b : Int), _) => .int .i64 (a / b))
set_option maxHeartbeats 1000000 in
theorem sat_floorDiv : Sat Try.prog 99 ct_floorDiv := by
  refine sat_typed (C := C_Ha) (L := noL) (wr := false) mixedOk Try.func99 C_Ha_ok (loops0 (by kernel_rfl)) (fun _ => by first | rfl | (simp [ownsOf, ownsOf.ownsL, enc, encV, encS])) fun x hp => ?_
  obtain ⟨(a : Int), (b : Int), _⟩ := x
  replace hp : 1 ≤ b ∧ -9223372036854775807 ≤ a ∧ a ≤ 9223372036854775807 := hp
  have htree : exFunc Try.prog C_Ha false noL Try.f99 (encA [.v (.int .i64), .v (.int .i64)] (a, b, ())) = .need (b ≠ (0 : Int) ∧ inK IntKind.i64 (a.tdiv b)) (.need (b ≠ (0 : Int)) (.ite (decide (a.tmod b < (0 : Int))) (.need (inK IntKind.i64 (a.tdiv b - (1 : Int))) (.leaf [.int .i64 (a.tdiv b - (1 : Int))])) (.leaf [.int .i64 (a.tdiv b)]))) := by kernel_rfl
  refine (congrArg (Tree.ok _) htree).mpr ?_
  clear htree
  have h1 := fdiv_rule a b hp.1
  have h2 := tdiv_small a b hp.1
  simp only [Tree.ok, tyd_inj, packAV, AV.same, AV.same.sameL, encV, encS, enc, inK, Nd.ok, List.headD_cons, List.cons_append, List.nil_append, List.append_nil, true_and, and_true, Bool.true_and, Bool.and_true, decide_eq_true_eq, decide_eq_false_iff_not]
  generalize a.tdiv b = q at *
  generalize a.tmod b = r at *
  generalize a / b = e at *
  omega
def C_Jk_1 : FuncId → Option Ct := addC 99 ct_floorDiv C_Ha
theorem C_Jk_1_ok : COk Try.prog C_Jk_1 := addC_ok C_Ha_ok sat_floorDiv
def ct_l02Div : Ct := ctOf [.v (.int .i64), .v (.int .i64)] (fun ((a : Int), (b : Int), _) => .p (1 ≤ b ∧ -9223372036854775807 ≤ a ∧ a ≤ 9223372036854775807)) (fun ((a : Int), (b : Int), _) => .int .i64 (a / b))
set_option maxHeartbeats 1000000 in
theorem sat_l02Div : Sat Try.prog 116 ct_l02Div := by
  refine sat_typed (C := C_Jk_1) (L := noL) (wr := false) mixedOk Try.func116 C_Jk_1_ok (loops0 (by kernel_rfl)) (fun _ => by first | rfl | (simp [ownsOf, ownsOf.ownsL, enc, encV, encS])) fun x hp => ?_
  obtain ⟨(a : Int), (b : Int), _⟩ := x
  replace hp : 1 ≤ b ∧ -9223372036854775807 ≤ a ∧ a ≤ 9223372036854775807 := hp
  have htree : exFunc Try.prog C_Jk_1 false noL Try.f116 (encA [.v (.int .i64), .v (.int .i64)] (a, b, ())) = .need (b ≠ (0 : Int) ∧ inK IntKind.i64 (a.tdiv b)) (.need (b ≠ (0 : Int)) (.ite (decide (a.tmod b < (0 : Int))) (.need (inK IntKind.i64 (a.tdiv b - (1 : Int))) (.leaf [.int .i64 (a.tdiv b - (1 : Int))])) (.leaf [.int .i64 (a.tdiv b)]))) := by kernel_rfl
  refine (congrArg (Tree.ok _) htree).mpr ?_
  clear htree
  have h1 := fdiv_rule a b hp.1
  have h2 := tdiv_small a b hp.1
  simp only [Tree.ok, tyd_inj, packAV, AV.same, AV.same.sameL, encV, encS, enc, inK, Nd.ok, List.headD_cons, List.cons_append, List.nil_append, List.append_nil, true_and, and_true, Bool.true_and, Bool.and_true, decide_eq_true_eq, decide_eq_false_iff_not]
  generalize a.tdiv b = q at *
  generalize a.tmod b = r at *
  generalize a / b = e at *
  omega
def C_Jk_2 : FuncId → Option Ct := addC 116 ct_l02Div C_Jk_1
theorem C_Jk_2_ok : COk Try.prog C_Jk_2 := addC_ok C_Jk_1_ok sat_l02Div
def ct_modulo : Ct := ctOf [.v (.int .i64), .v (.int .i64)] (fun ((a : Int), (b : Int), _) => .p (1 ≤ b ∧ b ≤ 1000000000 ∧ -4611686018427387904 ≤ a ∧ a ≤ 4611686018427387904)) (fun ((a : Int), (b : Int), _) => .int .i64 (a % b))
set_option maxHeartbeats 1000000 in
theorem sat_modulo : Sat Try.prog 100 ct_modulo := by
  refine sat_typed (C := C_Jk_2) (L := noL) (wr := false) mixedOk Try.func100 C_Jk_2_ok (loops0 (by kernel_rfl)) (fun _ => by first | rfl | (simp [ownsOf, ownsOf.ownsL, enc, encV, encS])) fun x hp => ?_
  obtain ⟨(a : Int), (b : Int), _⟩ := x
  replace hp : 1 ≤ b ∧ b ≤ 1000000000 ∧ -4611686018427387904 ≤ a ∧ a ≤ 4611686018427387904 := hp
  have htree : exFunc Try.prog C_Jk_2 false noL Try.f100 (encA [.v (.int .i64), .v (.int .i64)] (a, b, ())) = .need ((1 : Int) ≤ b ∧ (-9223372036854775807 : Int) ≤ a ∧ a ≤ (9223372036854775807 : Int)) (.need (inK IntKind.i64 (b * (a / b))) (.need (inK IntKind.i64 (a - b * (a / b))) (.leaf [.int .i64 (a - b * (a / b))]))) := by kernel_rfl
  refine (congrArg (Tree.ok _) htree).mpr ?_
  clear htree
  have h1 : b * (a / b) + a % b = a := Int.mul_ediv_add_emod a b
  have h2 := Int.emod_nonneg a (b := b) (by omega)
  have h3 := Int.emod_lt_of_pos a (b := b) (by omega)
  simp only [Tree.ok, tyd_inj, packAV, AV.same, AV.same.sameL, encV, encS, enc, inK, Nd.ok, List.headD_cons, List.cons_append, List.nil_append, List.append_nil, true_and, and_true, Bool.true_and, Bool.and_true]
  generalize a % b = r at *
  generalize b * (a / b) = m at *
  omega
def C_Jk_3 : FuncId → Option Ct := addC 100 ct_modulo C_Jk_2
theorem C_Jk_3_ok : COk Try.prog C_Jk_3 := addC_ok C_Jk_2_ok sat_modulo
def fif7 (i : Int) : Int := if i = 0 then 0 else if i = 1 then 2 else if i = 2 then 4 else if i = 3 then -1 else if i = 4 then 1 else if i = 5 then 3 else 5
theorem fif7_bd (i : Int) : -1 ≤ fif7 i ∧ fif7 i ≤ 5 := by
  unfold fif7
  repeat' split
  all_goals omega
theorem fif7_get (i z : Int) (h0 : 0 ≤ i) (h1 : i < 7) : ([0, 2, 4, -1, 1, 3, 5] : List Int).getD i.toNat z = fif7 i := by
  obtain ⟨k, rfl⟩ := Int.eq_ofNat_of_zero_le h0
  have hk : k < 7 := by omega
  match k, hk with
  | 0, _ => rfl
  | 1, _ => rfl
  | 2, _ => rfl
  | 3, _ => rfl
  | 4, _ => rfl
  | 5, _ => rfl
  | 6, _ => rfl
def ct_fifths : Ct := ctOf [.s tPitch] (fun (((st : Int), (al : Int), (oc : Int)), _) => .p ((0 ≤ st ∧ st ≤ 6) ∧ (-1000 ≤ al ∧ al ≤ 1000) ∧ oc = oc)) (fun (((st : Int), (al : Int), (oc : Int)), _) => .int .i64 (fif7 st + 7 * al))
set_option maxHeartbeats 1000000 in
theorem sat_fifths : Sat Try.prog 102 ct_fifths := by
  refine sat_typed (C := C_Jk_3) (L := noL) (wr := false) mixedOk Try.func102 C_Jk_3_ok (loops0 (by kernel_rfl)) (fun _ => by first | rfl | (simp [ownsOf, ownsOf.ownsL, enc, encV, encS])) fun x hp => ?_
  obtain ⟨⟨(st : Int), (al : Int), (oc : Int)⟩, _⟩ := x
  replace hp : (0 ≤ st ∧ st ≤ 6) ∧ (-1000 ≤ al ∧ al ≤ 1000) ∧ oc = oc := hp
  have htree : exFunc Try.prog C_Jk_3 false noL Try.f102 (encA [.s tPitch] ((st, al, oc), ())) = .need ((0 : Int) ≤ st ∧ st < (↑[(0 : Int), (2 : Int), (4 : Int), (-1 : Int), (1 : Int), (3 : Int), (5 : Int)].length : Int)) (.need (st.toNat < [(0 : Int), (2 : Int), (4 : Int), (-1 : Int), (1 : Int), (3 : Int), (5 : Int)].length) (.need (inK IntKind.i64 ((7 : Int) * al)) (.need (inK IntKind.i64 ([(0 : Int), (2 : Int), (4 : Int), (-1 : Int), (1 : Int), (3 : Int), (5 : Int)].getD st.toNat (Ty.int IntKind.i64).zero + (7 : Int) * al)) (.leaf [.int .i64 ([(0 : Int), (2 : Int), (4 : Int), (-1 : Int), (1 : Int), (3 : Int), (5 : Int)].getD st.toNat (Ty.int IntKind.i64).zero + (7 : Int) * al)])))) := by kernel_rfl
  refine (congrArg (Tree.ok _) htree).mpr ?_
  clear htree
  rw [fif7_get _ _ (by omega) (by omega)]
  have := fif7_bd st
  simp [Tree.ok, tyd_inj, packAV, AV.same, AV.same.sameL, encV, encS, enc, inK, Nd.ok, List.headD_cons, List.cons_append, List.nil_append, List.append_nil, true_and, and_true, Bool.true_and, Bool.and_true]; omega
def C_Jk_4 : FuncId → Option Ct := addC 102 ct_fifths C_Jk_3
theorem C_Jk_4_ok : COk Try.prog C_Jk_4 := addC_ok C_Jk_3_ok sat_fifths
def ct_l16Fifths : Ct := ctOf [.s tPitch] (fun (((st : Int), (al : Int), (oc : Int)), _) => .p ((0 ≤ st ∧ st ≤ 6) ∧ (-1000 ≤ al ∧ al ≤ 1000) ∧ oc = oc)) (fun (((st : Int), (al : Int), (oc : Int)), _) => .int .i64 (fif7 st + 7 * al))
set_option maxHeartbeats 1000000 in
theorem sat_l16Fifths : Sat Try.prog 90 ct_l16Fifths := by
  refine sat_typed (C := C_Jk_4) (L := noL) (wr := false) mixedOk Try.func90 C_Jk_4_ok (loops0 (by kernel_rfl)) (fun _ => by first | rfl | (simp [ownsOf, ownsOf.ownsL, enc, encV, encS])) fun x hp => ?_
  obtain ⟨⟨(st : Int), (al : Int), (oc : Int)⟩, _⟩ := x
  replace hp : (0 ≤ st ∧ st ≤ 6) ∧ (-1000 ≤ al ∧ al ≤ 1000) ∧ oc = oc := hp
  have htree : exFunc Try.prog C_Jk_4 false noL Try.f90 (encA [.s tPitch] ((st, al, oc), ())) = .need ((0 : Int) ≤ st ∧ st < (↑[(0 : Int), (2 : Int), (4 : Int), (-1 : Int), (1 : Int), (3 : Int), (5 : Int)].length : Int)) (.need (st.toNat < [(0 : Int), (2 : Int), (4 : Int), (-1 : Int), (1 : Int), (3 : Int), (5 : Int)].length) (.need (inK IntKind.i64 ((7 : Int) * al)) (.need (inK IntKind.i64 ([(0 : Int), (2 : Int), (4 : Int), (-1 : Int), (1 : Int), (3 : Int), (5 : Int)].getD st.toNat (Ty.int IntKind.i64).zero + (7 : Int) * al)) (.leaf [.int .i64 ([(0 : Int), (2 : Int), (4 : Int), (-1 : Int), (1 : Int), (3 : Int), (5 : Int)].getD st.toNat (Ty.int IntKind.i64).zero + (7 : Int) * al)])))) := by kernel_rfl
  refine (congrArg (Tree.ok _) htree).mpr ?_
  clear htree
  rw [fif7_get _ _ (by omega) (by omega)]
  have := fif7_bd st
  simp [Tree.ok, tyd_inj, packAV, AV.same, AV.same.sameL, encV, encS, enc, inK, Nd.ok, List.headD_cons, List.cons_append, List.nil_append, List.append_nil, true_and, and_true, Bool.true_and, Bool.and_true]; omega
def C_Jk_5 : FuncId → Option Ct := addC 90 ct_l16Fifths C_Jk_4
theorem C_Jk_5_ok : COk Try.prog C_Jk_5 := addC_ok C_Jk_4_ok sat_l16Fifths
abbrev SpS := Int × Int × Int × Int × Bool
def spRest (key st al : Int) : Int := key - natF st - al
def spOct (key st al : Int) : Int := spRest key st al / 12 - 1
def spFar (near st al : Int) : Int := max (fif7 st + 7 * al - near) (0 - (fif7 st + 7 * al - near))
def spTake (near st al : Int) (s : SpS) : Bool := !s.2.2.2.2 || (decide (spFar near st al < s.2.2.2.1) || (decide (spFar near st al = s.2.2.2.1) && decide (fif7 s.1 + 7 * s.2.1 < fif7 st + 7 * al)))
def spStep (key near st al : Int) (s : SpS) : SpS :=
  if spRest key st al % 12 ≠ 0 then s else if okP st al (spOct key st al) = false then s else if spTake near st al s = true then (st, al, spOct key st al, spFar near st al, true) else s
def spIn (key near st : Int) : Nat → Int → SpS → SpS
  | 0, _, s => s
  | n + 1, al, s => spIn key near st n (al + 1) (spStep key near st al s)
def spOut (key near : Int) : Nat → Int → SpS → SpS
  | 0, _, s => s
  | n + 1, st, s => spOut key near n (st + 1) (spIn key near st 5 (-2) s)
theorem spStep_bd (key near st al : Int) (s : SpS) (h0 : (0 ≤ st ∧ st ≤ 6) ∧ -2 ≤ al ∧ al ≤ 2) (h : (0 ≤ s.1 ∧ s.1 ≤ 6) ∧ -2 ≤ s.2.1 ∧ s.2.1 ≤ 2) : (0 ≤ (spStep key near st al s).1 ∧ (spStep key near st al s).1 ≤ 6) ∧ -2 ≤ (spStep key near st al s).2.1 ∧ (spStep key near st al s).2.1 ≤ 2 := by
  unfold spStep
  repeat' split
  all_goals first | exact h | exact h0
theorem spIn_bd (key near st : Int) (h0 : 0 ≤ st ∧ st ≤ 6) : ∀ (n : Nat) (al : Int) (s : SpS), -2 ≤ al → al + n ≤ 3 → (0 ≤ s.1 ∧ s.1 ≤ 6) ∧ -2 ≤ s.2.1 ∧ s.2.1 ≤ 2 → (0 ≤ (spIn key near st n al s).1 ∧ (spIn key near st n al s).1 ≤ 6) ∧ -2 ≤ (spIn key near st n al s).2.1 ∧ (spIn key near st n al s).2.1 ≤ 2
  | 0, _, _, _, _, h => h
  | n + 1, al, s, h1, h2, h => spIn_bd key near st h0 n (al + 1) _ (by omega) (by omega) (spStep_bd key near st al s ⟨h0, by omega⟩ h)
theorem spIn_go (key near st al : Int) (s : SpS) (h : al ≤ 2) : spIn key near st (3 - al).toNat al s = spIn key near st (3 - (al + 1)).toNat (al + 1) (spStep key near st al s) := by
  rw [show (3 - al).toNat = (3 - (al + 1)).toNat + 1 by omega]; rfl
theorem spOut_go (key near st : Int) (s : SpS) (h : st ≤ 6) : spOut key near (7 - st).toNat st s = spOut key near (7 - (st + 1)).toNat (st + 1) (spIn key near st 5 (-2) s) := by
  rw [show (7 - st).toNat = (7 - (st + 1)).toNat + 1 by omega]; rfl
def spBest (key near : Int) : SpS := spOut key near 7 0 (0, 0, 0, 0, false)
def ann_spellKey_0 : LAnn := { sameS := [0, 1, 4, 5], modS := [6, 7, 8], sameH := [4], modH := [5], base := 900000, nilE := [], nilB := [], G := fun
  | ⟨[.int .i64 key, .int .i64 near, .ptr 4 0, .ptr 5 0], [.box [.int .i64 z1, .int .i64 z2, .int .i64 z3]], [.int .i64 least, .bool found, .int .i64 st], [[.int .i64 bs, .int .i64 ba, .int .i64 bo]]⟩ => some (.p ((0 ≤ key ∧ key ≤ 127) ∧ (-20 ≤ near ∧ near ≤ 20) ∧ (0 ≤ st ∧ st ≤ 7) ∧ (0 ≤ bs ∧ bs ≤ 6) ∧ (-2 ≤ ba ∧ ba ≤ 2)), .leaf (.exit 0) [.int .i64 (spOut key near (7 - st).toNat st (bs, ba, bo, least, found)).2.2.2.1, .bool (spOut key near (7 - st).toNat st (bs, ba, bo, least, found)).2.2.2.2, .int .i64 7] [[.int .i64 (spOut key near (7 - st).toNat st (bs, ba, bo, least, found)).1, .int .i64 (spOut key near (7 - st).toNat st (bs, ba, bo, least, found)).2.1, .int .i64 (spOut key near (7 - st).toNat st (bs, ba, bo, least, found)).2.2.1]])
  | _ => none }
def ann_spellKey_1 : LAnn := { sameS := [0, 1, 4, 5, 8], modS := [6, 7, 9], sameH := [4], modH := [5], base := 900000, nilE := [], nilB := [], G := fun
  | ⟨[.int .i64 key, .int .i64 near, .ptr 4 0, .ptr 5 0, .int .i64 st], [.box [.int .i64 z1, .int .i64 z2, .int .i64 z3]], [.int .i64 least, .bool found, .int .i64 al], [[.int .i64 bs, .int .i64 ba, .int .i64 bo]]⟩ => some (.p ((0 ≤ key ∧ key ≤ 127) ∧ (-20 ≤ near ∧ near ≤ 20) ∧ (0 ≤ st ∧ st ≤ 6) ∧ (0 ≤ bs ∧ bs ≤ 6) ∧ (-2 ≤ ba ∧ ba ≤ 2) ∧ (-2 ≤ al ∧ al ≤ 3)), .leaf (.exit 2) [.int .i64 (spIn key near st (3 - al).toNat al (bs, ba, bo, least, found)).2.2.2.1, .bool (spIn key near st (3 - al).toNat al (bs, ba, bo, least, found)).2.2.2.2, .int .i64 3] [[.int .i64 (spIn key near st (3 - al).toNat al (bs, ba, bo, least, found)).1, .int .i64 (spIn key near st (3 - al).toNat al (bs, ba, bo, least, found)).2.1, .int .i64 (spIn key near st (3 - al).toNat al (bs, ba, bo, least, found)).2.2.1]])
  | _ => none }
def ct_spellKey : Ct := ctOf [.v (.int .i64), .v (.int .i64)] (fun ((key : Int), (near : Int), _) => .p ((0 ≤ key ∧ key ≤ 127) ∧ (-20 ≤ near ∧ near ≤ 20))) (fun ((key : Int), (near : Int), _) => .agg (enc tPitch ((spBest key near).1, (spBest key near).2.1, (spBest key near).2.2.1)))
set_option maxHeartbeats 1000000 in
theorem loop_spellKey_1 : LoopSat Try.prog Try.f61.ntmps (loopAt Try.f61 1) ann_spellKey_1 := by
  refine loopSat_of (C := C_Jk_5) (L := (addL (firstId (loopAt Try.f61 1)) ann_spellKey_1 (addL (firstId (loopAt Try.f61 0)) ann_spellKey_0 noL))) (wr := false) mixedOk C_Jk_5_ok (loopsIn0 (by kernel_rfl)) (fun d => match d.vals with | [_, _, .int _ al] => (3 - al).toNat | _ => 0) fun d p t hG hp => ?_
  simp only [ann_spellKey_1] at hG
  split at hG
  rotate_left
  · simp at hG
  rename_i key near st z1 z2 z3 least found al bs ba bo
  simp only [Option.some.injEq, Prod.mk.injEq] at hG
  obtain ⟨rfl, rfl⟩ := hG
  have htree : exRound Try.prog C_Jk_5 false (addL (firstId (loopAt Try.f61 1)) ann_spellKey_1 (addL (firstId (loopAt Try.f61 0)) ann_spellKey_0 noL)) Try.f61.ntmps ann_spellKey_1 (loopAt Try.f61 1) ⟨[.int .i64 key, .int .i64 near, .ptr 4 0, .ptr 5 0, .int .i64 st], [.box [.int .i64 z1, .int .i64 z2, .int .i64 z3]], [.int .i64 least, .bool found, .int .i64 al], [[.int .i64 bs, .int .i64 ba, .int .i64 bo]]⟩ = .ite (decide (al ≤ (2 : Int))) (.need ((0 : Int) ≤ st ∧ st ≤ (1000 : Int)) (.need (inK IntKind.i64 (key - natF st)) (.need (inK IntKind.i64 (key - natF st - al)) (.need ((1 : Int) ≤ (12 : Int) ∧ (-9223372036854775807 : Int) ≤ key - natF st - al ∧ key - natF st - al ≤ (9223372036854775807 : Int)) (.need (inK IntKind.i64 ((key - natF st - al) / (12 : Int) - (1 : Int))) (.need ((1 : Int) ≤ (12 : Int) ∧ (12 : Int) ≤ (1000000000 : Int) ∧ (-4611686018427387904 : Int) ≤ key - natF st - al ∧ key - natF st - al ≤ (4611686018427387904 : Int)) (.ite ((key - natF st - al) % (12 : Int) != (0 : Int)) (.need (inK IntKind.i64 (al + (1 : Int))) (.leaf (.normal, ⟨[.int .i64 (key), .int .i64 (near), .ptr 4 0, .ptr 5 0, .int .i64 (st)], [.box [.int .i64 (z1), .int .i64 (z2), .int .i64 (z3)]], [.int .i64 (least), .bool (found), .int .i64 (al + (1 : Int))], [[.int .i64 (bs), .int .i64 (ba), .int .i64 (bo)]]⟩))) (.ite (!okP st al ((key - natF st - al) / (12 : Int) - (1 : Int))) (.need (inK IntKind.i64 (al + (1 : Int))) (.leaf (.normal, ⟨[.int .i64 (key), .int .i64 (near), .ptr 4 0, .ptr 5 0, .int .i64 (st)], [.box [.int .i64 (z1), .int .i64 (z2), .int .i64 (z3)]], [.int .i64 (least), .bool (found), .int .i64 (al + (1 : Int))], [[.int .i64 (bs), .int .i64 (ba), .int .i64 (bo)]]⟩))) (.need (((0 : Int) ≤ st ∧ st ≤ (6 : Int)) ∧ ((-1000 : Int) ≤ al ∧ al ≤ (1000 : Int)) ∧ (key - natF st - al) / (12 : Int) - (1 : Int) = (key - natF st - al) / (12 : Int) - (1 : Int)) (.need (inK IntKind.i64 (fif7 st + (7 : Int) * al - near)) (.need (inK IntKind.i64 ((0 : Int) - (fif7 st + (7 : Int) * al - near))) (.ite (!found) (.need (inK IntKind.i64 (al + (1 : Int))) (.leaf (.normal, ⟨[.int .i64 (key), .int .i64 (near), .ptr 4 0, .ptr 5 0, .int .i64 (st)], [.box [.int .i64 (z1), .int .i64 (z2), .int .i64 (z3)]], [.int .i64 (bif true then max (fif7 st + (7 : Int) * al - near) ((0 : Int) - (fif7 st + (7 : Int) * al - near)) else min (fif7 st + (7 : Int) * al - near) ((0 : Int) - (fif7 st + (7 : Int) * al - near))), .bool (true), .int .i64 (al + (1 : Int))], [[.int .i64 (st), .int .i64 (al), .int .i64 ((key - natF st - al) / (12 : Int) - (1 : Int))]]⟩))) (.ite (decide ((bif true then max (fif7 st + (7 : Int) * al - near) ((0 : Int) - (fif7 st + (7 : Int) * al - near)) else min (fif7 st + (7 : Int) * al - near) ((0 : Int) - (fif7 st + (7 : Int) * al - near))) < least)) (.need (inK IntKind.i64 (al + (1 : Int))) (.leaf (.normal, ⟨[.int .i64 (key), .int .i64 (near), .ptr 4 0, .ptr 5 0, .int .i64 (st)], [.box [.int .i64 (z1), .int .i64 (z2), .int .i64 (z3)]], [.int .i64 (bif true then max (fif7 st + (7 : Int) * al - near) ((0 : Int) - (fif7 st + (7 : Int) * al - near)) else min (fif7 st + (7 : Int) * al - near) ((0 : Int) - (fif7 st + (7 : Int) * al - near))), .bool (true), .int .i64 (al + (1 : Int))], [[.int .i64 (st), .int .i64 (al), .int .i64 ((key - natF st - al) / (12 : Int) - (1 : Int))]]⟩))) (.ite ((bif true then max (fif7 st + (7 : Int) * al - near) ((0 : Int) - (fif7 st + (7 : Int) * al - near)) else min (fif7 st + (7 : Int) * al - near) ((0 : Int) - (fif7 st + (7 : Int) * al - near))) == least) (.need (((0 : Int) ≤ st ∧ st ≤ (6 : Int)) ∧ ((-1000 : Int) ≤ al ∧ al ≤ (1000 : Int)) ∧ (key - natF st - al) / (12 : Int) - (1 : Int) = (key - natF st - al) / (12 : Int) - (1 : Int)) (.need (((0 : Int) ≤ bs ∧ bs ≤ (6 : Int)) ∧ ((-1000 : Int) ≤ ba ∧ ba ≤ (1000 : Int)) ∧ bo = bo) (.ite (decide (fif7 bs + (7 : Int) * ba < fif7 st + (7 : Int) * al)) (.need (inK IntKind.i64 (al + (1 : Int))) (.leaf (.normal, ⟨[.int .i64 (key), .int .i64 (near), .ptr 4 0, .ptr 5 0, .int .i64 (st)], [.box [.int .i64 (z1), .int .i64 (z2), .int .i64 (z3)]], [.int .i64 (bif true then max (fif7 st + (7 : Int) * al - near) ((0 : Int) - (fif7 st + (7 : Int) * al - near)) else min (fif7 st + (7 : Int) * al - near) ((0 : Int) - (fif7 st + (7 : Int) * al - near))), .bool (true), .int .i64 (al + (1 : Int))], [[.int .i64 (st), .int .i64 (al), .int .i64 ((key - natF st - al) / (12 : Int) - (1 : Int))]]⟩))) (.need (inK IntKind.i64 (al + (1 : Int))) (.leaf (.normal, ⟨[.int .i64 (key), .int .i64 (near), .ptr 4 0, .ptr 5 0, .int .i64 (st)], [.box [.int .i64 (z1), .int .i64 (z2), .int .i64 (z3)]], [.int .i64 (least), .bool (found), .int .i64 (al + (1 : Int))], [[.int .i64 (bs), .int .i64 (ba), .int .i64 (bo)]]⟩)))))) (.need (inK IntKind.i64 (al + (1 : Int))) (.leaf (.normal, ⟨[.int .i64 (key), .int .i64 (near), .ptr 4 0, .ptr 5 0, .int .i64 (st)], [.box [.int .i64 (z1), .int .i64 (z2), .int .i64 (z3)]], [.int .i64 (least), .bool (found), .int .i64 (al + (1 : Int))], [[.int .i64 (bs), .int .i64 (ba), .int .i64 (bo)]]⟩))))))))))))))))) (.leaf ((.exit 2), ⟨[.int .i64 (key), .int .i64 (near), .ptr 4 0, .ptr 5 0, .int .i64 (st)], [.box [.int .i64 (z1), .int .i64 (z2), .int .i64 (z3)]], [.int .i64 (least), .bool (found), .int .i64 (al)], [[.int .i64 (bs), .int .i64 (ba), .int .i64 (bo)]]⟩)) := by kernel_rfl
  rw [htree]
  clear htree
  replace hp : (0 ≤ key ∧ key ≤ 127) ∧ (-20 ≤ near ∧ near ≤ 20) ∧ (0 ≤ st ∧ st ≤ 6) ∧ (0 ≤ bs ∧ bs ≤ 6) ∧ (-2 ≤ ba ∧ ba ≤ 2) ∧ (-2 ≤ al ∧ al ≤ 3) := hp
  have h1 := natF_bd st (by omega) (by omega)
  simp only [Tree.ok, tyd_inj, packAV, AV.same, AV.same.sameL, encV, encS, enc, inK, Nd.ok, List.headD_cons, List.cons_append, List.nil_append, List.append_nil, true_and, and_true, Bool.true_and, Bool.and_true, loop_next, weakBs_nil, weakBs_cons, weakB_self, weakB_row, weakB_int, weakL_nil, weakL_unk, weakL_guess, isRow_own, isRow_unk, weakL_int, weakL_bool, weakL_str, weakL_own, weakL_view, weakL_nilS, noRow_int, noRow_bool, own_inj, LTree.val, cond_true, cond_false, Prod.mk.injEq, List.cons.injEq, AV.int.injEq, AV.bool.injEq, AV.str.injEq, AV.agg.injEq, ann_spellKey_1, decide_eq_true_eq, decide_eq_false_iff_not]
  refine ⟨fun ha => ?_, fun ha => ?_⟩
  · have h2 := fif7_bd st
    rw [spIn_go _ _ _ _ _ ha]
    generalize hF : spIn key near st (3 - (al + 1)).toNat (al + 1) = F
    repeat' first | apply And.intro | intro _
    all_goals grind [spStep, spTake, spFar, spOct, spRest]
  · obtain rfl : al = 3 := by omega
    simp [spIn]
set_option maxHeartbeats 1000000 in
theorem loop_spellKey_0 : LoopSat Try.prog Try.f61.ntmps (loopAt Try.f61 0) ann_spellKey_0 := by
  refine loopSat_of (C := C_Jk_5) (L := (addL (firstId (loopAt Try.f61 1)) ann_spellKey_1 (addL (firstId (loopAt Try.f61 0)) ann_spellKey_0 noL))) (wr := false) mixedOk C_Jk_5_ok (loopsIn1 (b := loopAt Try.f61 1) (by kernel_rfl) (fun ann h => (Option.some.inj ((show (addL (firstId (loopAt Try.f61 1)) ann_spellKey_1 (addL (firstId (loopAt Try.f61 0)) ann_spellKey_0 noL)) (firstId (loopAt Try.f61 1)) = some ann_spellKey_1 from by kernel_rfl).symm.trans h)) ▸ loop_spellKey_1)) (fun d => match d.vals with | [_, _, .int _ st] => (7 - st).toNat | _ => 0) fun d p t hG hp => ?_
  simp only [ann_spellKey_0] at hG
  split at hG
  rotate_left
  · simp at hG
  rename_i key near z1 z2 z3 least found st bs ba bo
  simp only [Option.some.injEq, Prod.mk.injEq] at hG
  obtain ⟨rfl, rfl⟩ := hG
  have htree : exRound Try.prog C_Jk_5 false (addL (firstId (loopAt Try.f61 1)) ann_spellKey_1 (addL (firstId (loopAt Try.f61 0)) ann_spellKey_0 noL)) Try.f61.ntmps ann_spellKey_0 (loopAt Try.f61 0) ⟨[.int .i64 key, .int .i64 near, .ptr 4 0, .ptr 5 0], [.box [.int .i64 z1, .int .i64 z2, .int .i64 z3]], [.int .i64 least, .bool found, .int .i64 st], [[.int .i64 bs, .int .i64 ba, .int .i64 bo]]⟩ = .ite (decide (st ≤ (6 : Int))) (.need (((0 : Int) ≤ key ∧ key ≤ (127 : Int)) ∧ ((-20 : Int) ≤ near ∧ near ≤ (20 : Int)) ∧ ((0 : Int) ≤ st ∧ st ≤ (6 : Int)) ∧ ((0 : Int) ≤ bs ∧ bs ≤ (6 : Int)) ∧ ((-2 : Int) ≤ ba ∧ ba ≤ (2 : Int)) ∧ (-2 : Int) ≤ (-2 : Int) ∧ (-2 : Int) ≤ (3 : Int)) (.need (inK IntKind.i64 (st + (1 : Int))) (.leaf (.normal, ⟨[.int .i64 (key), .int .i64 (near), .ptr 4 0, .ptr 5 0], [.box [.int .i64 (z1), .int .i64 (z2), .int .i64 (z3)]], [.int .i64 ((spIn key near st ((3 : Int) - (-2 : Int)).toNat (-2 : Int) (bs, ba, bo, least, found)).snd.snd.snd.fst), .bool ((spIn key near st ((3 : Int) - (-2 : Int)).toNat (-2 : Int) (bs, ba, bo, least, found)).snd.snd.snd.snd), .int .i64 (st + (1 : Int))], [[.int .i64 ((spIn key near st ((3 : Int) - (-2 : Int)).toNat (-2 : Int) (bs, ba, bo, least, found)).fst), .int .i64 ((spIn key near st ((3 : Int) - (-2 : Int)).toNat (-2 : Int) (bs, ba, bo, least, found)).snd.fst), .int .i64 ((spIn key near st ((3 : Int) - (-2 : Int)).toNat (-2 : Int) (bs, ba, bo, least, found)).snd.snd.fst)]]⟩)))) (.leaf ((.exit 0), ⟨[.int .i64 (key), .int .i64 (near), .ptr 4 0, .ptr 5 0], [.box [.int .i64 (z1), .int .i64 (z2), .int .i64 (z3)]], [.int .i64 (least), .bool (found), .int .i64 (st)], [[.int .i64 (bs), .int .i64 (ba), .int .i64 (bo)]]⟩)) := by kernel_rfl
  rw [htree]
  clear htree
  replace hp : (0 ≤ key ∧ key ≤ 127) ∧ (-20 ≤ near ∧ near ≤ 20) ∧ (0 ≤ st ∧ st ≤ 7) ∧ (0 ≤ bs ∧ bs ≤ 6) ∧ (-2 ≤ ba ∧ ba ≤ 2) := hp
  simp only [Tree.ok, tyd_inj, packAV, AV.same, AV.same.sameL, encV, encS, enc, inK, Nd.ok, List.headD_cons, List.cons_append, List.nil_append, List.append_nil, true_and, and_true, Bool.true_and, Bool.and_true, loop_next, weakBs_nil, weakBs_cons, weakB_self, weakB_row, weakB_int, weakL_nil, weakL_unk, weakL_guess, isRow_own, isRow_unk, weakL_int, weakL_bool, weakL_str, weakL_own, weakL_view, weakL_nilS, noRow_int, noRow_bool, own_inj, LTree.val, cond_true, cond_false, Prod.mk.injEq, List.cons.injEq, AV.int.injEq, AV.bool.injEq, AV.str.injEq, AV.agg.injEq, ann_spellKey_0, decide_eq_true_eq, decide_eq_false_iff_not]
  refine ⟨fun ha => ?_, fun ha => ?_⟩
  · have h2 := spIn_bd key near st (by omega) 5 (-2) (bs, ba, bo, least, found) (by omega) (by omega) ⟨by simp only; omega, by simp only; omega⟩
    rw [spOut_go _ _ _ _ ha, show ((3 : Int) - -2).toNat = 5 from rfl]
    refine ⟨by omega, by omega, by omega, ?_, ?_⟩
    · omega
    · exact ⟨⟨rfl, rfl⟩, rfl, rfl, rfl⟩
  · obtain rfl : st = 7 := by omega
    simp [spOut]
theorem loops_spellKey : ∀ c, Try.f61.body = some c → LoopsOk Try.prog (addL (firstId (loopAt Try.f61 1)) ann_spellKey_1 (addL (firstId (loopAt Try.f61 0)) ann_spellKey_0 noL)) Try.f61.ntmps c := loopsN fun i hi ann h => by
  have hn : loopN Try.f61 = 2 := by kernel_rfl
  rw [hn] at hi
  exact match i, hi, h with
    | 0, _, h => (Option.some.inj ((show (addL (firstId (loopAt Try.f61 1)) ann_spellKey_1 (addL (firstId (loopAt Try.f61 0)) ann_spellKey_0 noL)) (firstId (loopAt Try.f61 0)) = some ann_spellKey_0 from by kernel_rfl).symm.trans h)) ▸ loop_spellKey_0
    | 1, _, h => (Option.some.inj ((show (addL (firstId (loopAt Try.f61 1)) ann_spellKey_1 (addL (firstId (loopAt Try.f61 0)) ann_spellKey_0 noL)) (firstId (loopAt Try.f61 1)) = some ann_spellKey_1 from by kernel_rfl).symm.trans h)) ▸ loop_spellKey_1
set_option maxHeartbeats 1000000 in
theorem sat_spellKey : Sat Try.prog 61 ct_spellKey := by
  refine sat_typed (C := C_Jk_5) (L := (addL (firstId (loopAt Try.f61 1)) ann_spellKey_1 (addL (firstId (loopAt Try.f61 0)) ann_spellKey_0 noL))) (wr := false) mixedOk Try.func61 C_Jk_5_ok (loops_spellKey) (fun _ => by first | rfl | (simp [ownsOf, ownsOf.ownsL, enc, encV, encS])) fun x hp => ?_
  obtain ⟨(key : Int), (near : Int), _⟩ := x
  replace hp : (0 ≤ key ∧ key ≤ 127) ∧ (-20 ≤ near ∧ near ≤ 20) := hp
  have htree : exFunc Try.prog C_Jk_5 false (addL (firstId (loopAt Try.f61 1)) ann_spellKey_1 (addL (firstId (loopAt Try.f61 0)) ann_spellKey_0 noL)) Try.f61 (encA [.v (.int .i64), .v (.int .i64)] (key, near, ())) = .need (((0 : Int) ≤ key ∧ key ≤ (127 : Int)) ∧ ((-20 : Int) ≤ near ∧ near ≤ (20 : Int)) ∧ ((0 : Int) ≤ (0 : Int) ∧ (0 : Int) ≤ (7 : Int)) ∧ ((0 : Int) ≤ (0 : Int) ∧ (0 : Int) ≤ (6 : Int)) ∧ (-2 : Int) ≤ (0 : Int) ∧ (0 : Int) ≤ (2 : Int)) (.leaf [.agg [.int .i64 ((spOut key near ((7 : Int) - (0 : Int)).toNat (0 : Int) ((0 : Int), (0 : Int), (0 : Int), (0 : Int), false)).fst), .int .i64 ((spOut key near ((7 : Int) - (0 : Int)).toNat (0 : Int) ((0 : Int), (0 : Int), (0 : Int), (0 : Int), false)).snd.fst), .int .i64 ((spOut key near ((7 : Int) - (0 : Int)).toNat (0 : Int) ((0 : Int), (0 : Int), (0 : Int), (0 : Int), false)).snd.snd.fst)]]) := by kernel_rfl
  refine (congrArg (Tree.ok _) htree).mpr ?_
  clear htree
  simp only [Tree.ok, tyd_inj, packAV, AV.same, AV.same.sameL, encV, encS, enc, inK, Nd.ok, List.headD_cons, List.cons_append, List.nil_append, List.append_nil, true_and, and_true, Bool.true_and, Bool.and_true]
  exact ⟨by omega, by simp [spBest]⟩
def C_Jk_6 : FuncId → Option Ct := addC 61 ct_spellKey C_Jk_5
theorem C_Jk_6_ok : COk Try.prog C_Jk_6 := addC_ok C_Jk_5_ok sat_spellKey
abbrev SqS := Int × Int × Int × Int
def sqAl (key st oc : Int) : Int := key - keyF st 0 oc
def sqStep (key near st oc : Int) (s : SqS) : SqS :=
  if okP st (sqAl key st oc) oc = false then s else if spFar near st (sqAl key st oc) < s.2.2.2 ∨ (spFar near st (sqAl key st oc) = s.2.2.2 ∧ 0 < fif7 st + 7 * sqAl key st oc - near) then (st, sqAl key st oc, oc, spFar near st (sqAl key st oc)) else s
def sqIn (key near oc : Int) : Nat → Int → SqS → SqS
  | 0, _, s => s
  | n + 1, st, s => sqIn key near oc n (st + 1) (sqStep key near st oc s)
def sqOut (key near : Int) : Nat → Int → SqS → SqS
  | 0, _, s => s
  | n + 1, oc, s => sqOut key near n (oc + 1) (sqIn key near oc 7 0 s)
def sqBest (key near : Int) : SqS := sqOut key near 11 (-1) (0, 0, 0, 1000)
theorem sqIn_go (key near oc st : Int) (s : SqS) (h : st < 7) : sqIn key near oc (7 - st).toNat st s = sqIn key near oc (7 - (st + 1)).toNat (st + 1) (sqStep key near st oc s) := by
  rw [show (7 - st).toNat = (7 - (st + 1)).toNat + 1 by omega]; rfl
theorem sqOut_go (key near oc : Int) (s : SqS) (h : oc ≤ 9) : sqOut key near (10 - oc).toNat oc s = sqOut key near (10 - (oc + 1)).toNat (oc + 1) (sqIn key near oc 7 0 s) := by
  rw [show (10 - oc).toNat = (10 - (oc + 1)).toNat + 1 by omega]; rfl
def ct_l00Max : Ct := ctOf [.v (.int .i64), .v (.int .i64)] (fun _ => .tt) (fun ((a : Int), (b : Int), _) => .int .i64 (max a b))
set_option maxHeartbeats 1000000 in
theorem sat_l00Max : Sat Try.prog 91 ct_l00Max := by
  refine sat_typed (C := C_Jk_6) (L := noL) (wr := false) mixedOk Try.func91 C_Jk_6_ok (loops0 (by kernel_rfl)) (fun _ => by first | rfl | (simp [ownsOf, ownsOf.ownsL, enc, encV, encS])) fun x hp => ?_
  obtain ⟨(a : Int), (b : Int), _⟩ := x
  clear hp
  have htree : exFunc Try.prog C_Jk_6 false noL Try.f91 (encA [.v (.int .i64), .v (.int .i64)] (a, b, ())) = .ite (decide (b < a)) (.leaf [.int .i64 (a)]) (.leaf [.int .i64 (b)]) := by kernel_rfl
  refine (congrArg (Tree.ok _) htree).mpr ?_
  clear htree
  simp only [Tree.ok, tyd_inj, packAV, AV.same, AV.same.sameL, encV, encS, enc, inK, Nd.ok, List.headD_cons, List.cons_append, List.nil_append, List.append_nil, true_and, and_true, Bool.true_and, Bool.and_true]
  grind
def C_Jk_7 : FuncId → Option Ct := addC 91 ct_l00Max C_Jk_6
theorem C_Jk_7_ok : COk Try.prog C_Jk_7 := addC_ok C_Jk_6_ok sat_l00Max
def spellS (key near : Int) : (Int × Int × Int) × Int := if inB key 0 127 = true ∧ inB near (-20) 20 = true then (((sqBest key near).1, (sqBest key near).2.1, (sqBest key near).2.2.1), 0) else ((0, 0, 0), 2)
def spellI (key near : Int) : (Int × Int × Int) × Int := if inB key 0 127 = true ∧ inB near (-20) 20 = true then (((spBest key near).1, (spBest key near).2.1, (spBest key near).2.2.1), 0) else ((0, 0, 0), 2)
def ann_sSpellKey_0 : LAnn := { sameS := [0, 1, 4, 6], modS := [7, 8], sameH := [4], modH := [6], base := 900000, nilE := [], nilB := [], G := fun
  | ⟨[.int .i64 key, .int .i64 near, .ptr 4 0, .ptr 6 0], [.box [.int .i64 z1, .int .i64 z2, .int .i64 z3]], [.int .i64 least, .int .i64 oc], [[.int .i64 bs, .int .i64 ba, .int .i64 bo]]⟩ => some (.p ((0 ≤ key ∧ key ≤ 127) ∧ (-20 ≤ near ∧ near ≤ 20) ∧ (-1 ≤ oc ∧ oc ≤ 10)), .leaf (.exit 0) [.int .i64 (sqOut key near (10 - oc).toNat oc (bs, ba, bo, least)).2.2.2, .int .i64 10] [[.int .i64 (sqOut key near (10 - oc).toNat oc (bs, ba, bo, least)).1, .int .i64 (sqOut key near (10 - oc).toNat oc (bs, ba, bo, least)).2.1, .int .i64 (sqOut key near (10 - oc).toNat oc (bs, ba, bo, least)).2.2.1]])
  | _ => none }
def ann_sSpellKey_1 : LAnn := { sameS := [0, 1, 4, 6, 8], modS := [7, 9], sameH := [4], modH := [6], base := 900000, nilE := [], nilB := [], G := fun
  | ⟨[.int .i64 key, .int .i64 near, .ptr 4 0, .ptr 6 0, .int .i64 oc], [.box [.int .i64 z1, .int .i64 z2, .int .i64 z3]], [.int .i64 least, .int .i64 st], [[.int .i64 bs, .int .i64 ba, .int .i64 bo]]⟩ => some (.p ((0 ≤ key ∧ key ≤ 127) ∧ (-20 ≤ near ∧ near ≤ 20) ∧ (-1 ≤ oc ∧ oc ≤ 9) ∧ (0 ≤ st ∧ st ≤ 7)), .leaf (.exit 2) [.int .i64 (sqIn key near oc (7 - st).toNat st (bs, ba, bo, least)).2.2.2, .int .i64 7] [[.int .i64 (sqIn key near oc (7 - st).toNat st (bs, ba, bo, least)).1, .int .i64 (sqIn key near oc (7 - st).toNat st (bs, ba, bo, least)).2.1, .int .i64 (sqIn key near oc (7 - st).toNat st (bs, ba, bo, least)).2.2.1]])
  | _ => none }
def ct_sSpellKey : Ct := ctOf [.v (.int .i64), .v (.int .i64)] (fun _ => .tt) (fun ((key : Int), (near : Int), _) => .tup [.agg (enc tPitch (spellS key near).1), .int .i64 (spellS key near).2])
set_option maxHeartbeats 1000000 in
theorem loop_sSpellKey_1 : LoopSat Try.prog Try.f52.ntmps (loopAt Try.f52 1) ann_sSpellKey_1 := by
  refine loopSat_of (C := C_Jk_7) (L := (addL (firstId (loopAt Try.f52 1)) ann_sSpellKey_1 (addL (firstId (loopAt Try.f52 0)) ann_sSpellKey_0 noL))) (wr := false) mixedOk C_Jk_7_ok (loopsIn0 (by kernel_rfl)) (fun d => match d.vals with | [_, .int _ st] => (7 - st).toNat | _ => 0) fun d p t hG hp => ?_
  simp only [ann_sSpellKey_1] at hG
  split at hG
  rotate_left
  · simp at hG
  rename_i key near oc z1 z2 z3 least st bs ba bo
  simp only [Option.some.injEq, Prod.mk.injEq] at hG
  obtain ⟨rfl, rfl⟩ := hG
  have htree : exRound Try.prog C_Jk_7 false (addL (firstId (loopAt Try.f52 1)) ann_sSpellKey_1 (addL (firstId (loopAt Try.f52 0)) ann_sSpellKey_0 noL)) Try.f52.ntmps ann_sSpellKey_1 (loopAt Try.f52 1) ⟨[.int .i64 key, .int .i64 near, .ptr 4 0, .ptr 6 0, .int .i64 oc], [.box [.int .i64 z1, .int .i64 z2, .int .i64 z3]], [.int .i64 least, .int .i64 st], [[.int .i64 bs, .int .i64 ba, .int .i64 bo]]⟩ = .ite (decide (st < (7 : Int))) (.need (((0 : Int) ≤ st ∧ st ≤ (6 : Int)) ∧ ((-1000 : Int) ≤ (0 : Int) ∧ (0 : Int) ≤ (1000 : Int)) ∧ (-1000 : Int) ≤ oc ∧ oc ≤ (1000 : Int)) (.need (inK IntKind.i64 (key - keyF st (0 : Int) oc)) (.ite (!okP st (key - keyF st (0 : Int) oc) oc) (.need (inK IntKind.i64 (st + (1 : Int))) (.leaf (.normal, ⟨[.int .i64 (key), .int .i64 (near), .ptr 4 0, .ptr 6 0, .int .i64 (oc)], [.box [.int .i64 (z1), .int .i64 (z2), .int .i64 (z3)]], [.int .i64 (least), .int .i64 (st + (1 : Int))], [[.int .i64 (bs), .int .i64 (ba), .int .i64 (bo)]]⟩))) (.need (((0 : Int) ≤ st ∧ st ≤ (6 : Int)) ∧ ((-1000 : Int) ≤ key - keyF st (0 : Int) oc ∧ key - keyF st (0 : Int) oc ≤ (1000 : Int)) ∧ oc = oc) (.need (inK IntKind.i64 (fif7 st + (7 : Int) * (key - keyF st (0 : Int) oc) - near)) (.need (inK IntKind.i64 ((0 : Int) - (fif7 st + (7 : Int) * (key - keyF st (0 : Int) oc) - near))) (.ite (decide (max (fif7 st + (7 : Int) * (key - keyF st (0 : Int) oc) - near) ((0 : Int) - (fif7 st + (7 : Int) * (key - keyF st (0 : Int) oc) - near)) < least)) (.need (inK IntKind.i64 (st + (1 : Int))) (.leaf (.normal, ⟨[.int .i64 (key), .int .i64 (near), .ptr 4 0, .ptr 6 0, .int .i64 (oc)], [.box [.int .i64 (z1), .int .i64 (z2), .int .i64 (z3)]], [.int .i64 (max (fif7 st + (7 : Int) * (key - keyF st (0 : Int) oc) - near) ((0 : Int) - (fif7 st + (7 : Int) * (key - keyF st (0 : Int) oc) - near))), .int .i64 (st + (1 : Int))], [[.int .i64 (st), .int .i64 (key - keyF st (0 : Int) oc), .int .i64 (oc)]]⟩))) (.ite (max (fif7 st + (7 : Int) * (key - keyF st (0 : Int) oc) - near) ((0 : Int) - (fif7 st + (7 : Int) * (key - keyF st (0 : Int) oc) - near)) == least) (.ite (decide ((0 : Int) < fif7 st + (7 : Int) * (key - keyF st (0 : Int) oc) - near)) (.need (inK IntKind.i64 (st + (1 : Int))) (.leaf (.normal, ⟨[.int .i64 (key), .int .i64 (near), .ptr 4 0, .ptr 6 0, .int .i64 (oc)], [.box [.int .i64 (z1), .int .i64 (z2), .int .i64 (z3)]], [.int .i64 (max (fif7 st + (7 : Int) * (key - keyF st (0 : Int) oc) - near) ((0 : Int) - (fif7 st + (7 : Int) * (key - keyF st (0 : Int) oc) - near))), .int .i64 (st + (1 : Int))], [[.int .i64 (st), .int .i64 (key - keyF st (0 : Int) oc), .int .i64 (oc)]]⟩))) (.need (inK IntKind.i64 (st + (1 : Int))) (.leaf (.normal, ⟨[.int .i64 (key), .int .i64 (near), .ptr 4 0, .ptr 6 0, .int .i64 (oc)], [.box [.int .i64 (z1), .int .i64 (z2), .int .i64 (z3)]], [.int .i64 (least), .int .i64 (st + (1 : Int))], [[.int .i64 (bs), .int .i64 (ba), .int .i64 (bo)]]⟩)))) (.need (inK IntKind.i64 (st + (1 : Int))) (.leaf (.normal, ⟨[.int .i64 (key), .int .i64 (near), .ptr 4 0, .ptr 6 0, .int .i64 (oc)], [.box [.int .i64 (z1), .int .i64 (z2), .int .i64 (z3)]], [.int .i64 (least), .int .i64 (st + (1 : Int))], [[.int .i64 (bs), .int .i64 (ba), .int .i64 (bo)]]⟩))))))))))) (.leaf ((.exit 2), ⟨[.int .i64 (key), .int .i64 (near), .ptr 4 0, .ptr 6 0, .int .i64 (oc)], [.box [.int .i64 (z1), .int .i64 (z2), .int .i64 (z3)]], [.int .i64 (least), .int .i64 (st)], [[.int .i64 (bs), .int .i64 (ba), .int .i64 (bo)]]⟩)) := by kernel_rfl
  rw [htree]
  clear htree
  replace hp : (0 ≤ key ∧ key ≤ 127) ∧ (-20 ≤ near ∧ near ≤ 20) ∧ (-1 ≤ oc ∧ oc ≤ 9) ∧ (0 ≤ st ∧ st ≤ 7) := hp
  have h0 : st < 7 → 0 ≤ keyF st 0 oc ∧ keyF st 0 oc ≤ 10000 := fun h => by
    have := natF_bd st (by omega) (by omega)
    unfold keyF; omega
  simp only [Tree.ok, tyd_inj, packAV, AV.same, AV.same.sameL, encV, encS, enc, inK, Nd.ok, List.headD_cons, List.cons_append, List.nil_append, List.append_nil, true_and, and_true, Bool.true_and, Bool.and_true, loop_next, weakBs_nil, weakBs_cons, weakB_self, weakB_row, weakB_int, weakL_nil, weakL_unk, weakL_guess, isRow_own, isRow_unk, weakL_int, weakL_bool, weakL_str, weakL_own, weakL_view, weakL_nilS, noRow_int, noRow_bool, own_inj, LTree.val, cond_true, cond_false, Prod.mk.injEq, List.cons.injEq, AV.int.injEq, AV.bool.injEq, AV.str.injEq, AV.agg.injEq, ann_sSpellKey_1, decide_eq_true_eq, decide_eq_false_iff_not]
  refine ⟨fun ha => ?_, fun ha => ?_⟩
  · have h2 := fif7_bd st
    have h3 := @okP_bd st (key - keyF st 0 oc) oc
    have h0 := h0 ha
    rw [sqIn_go _ _ _ _ _ ha]
    generalize hF : sqIn key near oc (7 - (st + 1)).toNat (st + 1) = F
    repeat' first | apply And.intro | intro _
    all_goals grind [sqStep, sqAl, spFar]
  · obtain rfl : st = 7 := by omega
    simp [sqIn]
set_option maxHeartbeats 1000000 in
theorem loop_sSpellKey_0 : LoopSat Try.prog Try.f52.ntmps (loopAt Try.f52 0) ann_sSpellKey_0 := by
  refine loopSat_of (C := C_Jk_7) (L := (addL (firstId (loopAt Try.f52 1)) ann_sSpellKey_1 (addL (firstId (loopAt Try.f52 0)) ann_sSpellKey_0 noL))) (wr := false) mixedOk C_Jk_7_ok (loopsIn1 (b := loopAt Try.f52 1) (by kernel_rfl) (fun ann h => (Option.some.inj ((show (addL (firstId (loopAt Try.f52 1)) ann_sSpellKey_1 (addL (firstId (loopAt Try.f52 0)) ann_sSpellKey_0 noL)) (firstId (loopAt Try.f52 1)) = some ann_sSpellKey_1 from by kernel_rfl).symm.trans h)) ▸ loop_sSpellKey_1)) (fun d => match d.vals with | [_, .int _ oc] => (10 - oc).toNat | _ => 0) fun d p t hG hp => ?_
  simp only [ann_sSpellKey_0] at hG
  split at hG
  rotate_left
  · simp at hG
  rename_i key near z1 z2 z3 least oc bs ba bo
  simp only [Option.some.injEq, Prod.mk.injEq] at hG
  obtain ⟨rfl, rfl⟩ := hG
  have htree : exRound Try.prog C_Jk_7 false (addL (firstId (loopAt Try.f52 1)) ann_sSpellKey_1 (addL (firstId (loopAt Try.f52 0)) ann_sSpellKey_0 noL)) Try.f52.ntmps ann_sSpellKey_0 (loopAt Try.f52 0) ⟨[.int .i64 key, .int .i64 near, .ptr 4 0, .ptr 6 0], [.box [.int .i64 z1, .int .i64 z2, .int .i64 z3]], [.int .i64 least, .int .i64 oc], [[.int .i64 bs, .int .i64 ba, .int .i64 bo]]⟩ = .ite (decide (oc ≤ (9 : Int))) (.need (((0 : Int) ≤ key ∧ key ≤ (127 : Int)) ∧ ((-20 : Int) ≤ near ∧ near ≤ (20 : Int)) ∧ ((-1 : Int) ≤ oc ∧ oc ≤ (9 : Int)) ∧ (0 : Int) ≤ (0 : Int) ∧ (0 : Int) ≤ (7 : Int)) (.need (inK IntKind.i64 (oc + (1 : Int))) (.leaf (.normal, ⟨[.int .i64 (key), .int .i64 (near), .ptr 4 0, .ptr 6 0], [.box [.int .i64 (z1), .int .i64 (z2), .int .i64 (z3)]], [.int .i64 ((sqIn key near oc ((7 : Int) - (0 : Int)).toNat (0 : Int) (bs, ba, bo, least)).snd.snd.snd), .int .i64 (oc + (1 : Int))], [[.int .i64 ((sqIn key near oc ((7 : Int) - (0 : Int)).toNat (0 : Int) (bs, ba, bo, least)).fst), .int .i64 ((sqIn key near oc ((7 : Int) - (0 : Int)).toNat (0 : Int) (bs, ba, bo, least)).snd.fst), .int .i64 ((sqIn key near oc ((7 : Int) - (0 : Int)).toNat (0 : Int) (bs, ba, bo, least)).snd.snd.fst)]]⟩)))) (.leaf ((.exit 0), ⟨[.int .i64 (key), .int .i64 (near), .ptr 4 0, .ptr 6 0], [.box [.int .i64 (z1), .int .i64 (z2), .int .i64 (z3)]], [.int .i64 (least), .int .i64 (oc)], [[.int .i64 (bs), .int .i64 (ba), .int .i64 (bo)]]⟩)) := by kernel_rfl
  rw [htree]
  clear htree
  replace hp : (0 ≤ key ∧ key ≤ 127) ∧ (-20 ≤ near ∧ near ≤ 20) ∧ (-1 ≤ oc ∧ oc ≤ 10) := hp
  simp only [Tree.ok, tyd_inj, packAV, AV.same, AV.same.sameL, encV, encS, enc, inK, Nd.ok, List.headD_cons, List.cons_append, List.nil_append, List.append_nil, true_and, and_true, Bool.true_and, Bool.and_true, loop_next, weakBs_nil, weakBs_cons, weakB_self, weakB_row, weakB_int, weakL_nil, weakL_unk, weakL_guess, isRow_own, isRow_unk, weakL_int, weakL_bool, weakL_str, weakL_own, weakL_view, weakL_nilS, noRow_int, noRow_bool, own_inj, LTree.val, cond_true, cond_false, Prod.mk.injEq, List.cons.injEq, AV.int.injEq, AV.bool.injEq, AV.str.injEq, AV.agg.injEq, ann_sSpellKey_0, decide_eq_true_eq, decide_eq_false_iff_not]
  refine ⟨fun ha => ?_, fun ha => ?_⟩
  · rw [sqOut_go _ _ _ _ ha, show ((7 : Int) - 0).toNat = 7 from rfl]
    refine ⟨by omega, by omega, by omega, ?_, ?_⟩
    · omega
    · exact ⟨rfl, rfl, rfl, rfl⟩
  · obtain rfl : oc = 10 := by omega
    simp [sqOut]
theorem loops_sSpellKey : ∀ c, Try.f52.body = some c → LoopsOk Try.prog (addL (firstId (loopAt Try.f52 1)) ann_sSpellKey_1 (addL (firstId (loopAt Try.f52 0)) ann_sSpellKey_0 noL)) Try.f52.ntmps c := loopsN fun i hi ann h => by
  have hn : loopN Try.f52 = 2 := by kernel_rfl
  rw [hn] at hi
  exact match i, hi, h with
    | 0, _, h => (Option.some.inj ((show (addL (firstId (loopAt Try.f52 1)) ann_sSpellKey_1 (addL (firstId (loopAt Try.f52 0)) ann_sSpellKey_0 noL)) (firstId (loopAt Try.f52 0)) = some ann_sSpellKey_0 from by kernel_rfl).symm.trans h)) ▸ loop_sSpellKey_0
    | 1, _, h => (Option.some.inj ((show (addL (firstId (loopAt Try.f52 1)) ann_sSpellKey_1 (addL (firstId (loopAt Try.f52 0)) ann_sSpellKey_0 noL)) (firstId (loopAt Try.f52 1)) = some ann_sSpellKey_1 from by kernel_rfl).symm.trans h)) ▸ loop_sSpellKey_1
set_option maxHeartbeats 1000000 in
theorem sat_sSpellKey : Sat Try.prog 52 ct_sSpellKey := by
  refine sat_typed (C := C_Jk_7) (L := (addL (firstId (loopAt Try.f52 1)) ann_sSpellKey_1 (addL (firstId (loopAt Try.f52 0)) ann_sSpellKey_0 noL))) (wr := false) mixedOk Try.func52 C_Jk_7_ok (loops_sSpellKey) (fun _ => by first | rfl | (simp [ownsOf, ownsOf.ownsL, enc, encV, encS])) fun x hp => ?_
  obtain ⟨(key : Int), (near : Int), _⟩ := x
  clear hp
  have htree : exFunc Try.prog C_Jk_7 false (addL (firstId (loopAt Try.f52 1)) ann_sSpellKey_1 (addL (firstId (loopAt Try.f52 0)) ann_sSpellKey_0 noL)) Try.f52 (encA [.v (.int .i64), .v (.int .i64)] (key, near, ())) = .ite (!inB key (0 : Int) (127 : Int)) (.leaf [.agg [.int .i64 ((0 : Int)), .int .i64 ((0 : Int)), .int .i64 ((0 : Int))], .int .i64 ((2 : Int))]) (.ite (!inB near (-20 : Int) (20 : Int)) (.leaf [.agg [.int .i64 ((0 : Int)), .int .i64 ((0 : Int)), .int .i64 ((0 : Int))], .int .i64 ((2 : Int))]) (.need (((0 : Int) ≤ key ∧ key ≤ (127 : Int)) ∧ ((-20 : Int) ≤ near ∧ near ≤ (20 : Int)) ∧ (-1 : Int) ≤ (-1 : Int) ∧ (-1 : Int) ≤ (10 : Int)) (.leaf [.agg [.int .i64 ((sqOut key near ((10 : Int) - (-1 : Int)).toNat (-1 : Int) ((0 : Int), (0 : Int), (0 : Int), (1000 : Int))).fst), .int .i64 ((sqOut key near ((10 : Int) - (-1 : Int)).toNat (-1 : Int) ((0 : Int), (0 : Int), (0 : Int), (1000 : Int))).snd.fst), .int .i64 ((sqOut key near ((10 : Int) - (-1 : Int)).toNat (-1 : Int) ((0 : Int), (0 : Int), (0 : Int), (1000 : Int))).snd.snd.fst)], .int .i64 ((0 : Int))]))) := by kernel_rfl
  refine (congrArg (Tree.ok _) htree).mpr ?_
  clear htree
  have hb : sqOut key near ((10 : Int) - -1).toNat (-1) (0, 0, 0, 1000) = sqBest key near := rfl
  simp only [Tree.ok, tyd_inj, packAV, AV.same, AV.same.sameL, encV, encS, enc, inK, Nd.ok, List.headD_cons, List.cons_append, List.nil_append, List.append_nil, true_and, and_true, Bool.true_and, Bool.and_true, hb]
  repeat' first | apply And.intro | intro _
  all_goals grind [spellS, inB]
def C_Jk_8 : FuncId → Option Ct := addC 52 ct_sSpellKey C_Jk_7
theorem C_Jk_8_ok : COk Try.prog C_Jk_8 := addC_ok C_Jk_7_ok sat_sSpellKey

def C_Jk : FuncId → Option Ct := C_Jk_8
theorem C_Jk_ok : COk Try.prog C_Jk := C_Jk_8_ok
end Go.Proofs.Ytemlpimibhijoaa
