/- Contracts: texts of fractions and tunings, of the program and the reference; the law on texts of tunings. Conditions: as each says. -/
import Derived.Test.YtkeckmdmmbeaiaaDoorUt
import Derived.Test.YtkeckmdmmbeaiaaDoorFk
set_option linter.unusedSimpArgs false
set_option linter.unusedVariables false
namespace Go.Proofs.YtkeckmdmmbeaiaaDoor
open Go.RowKit Sx
set_option maxRecDepth 100000
set_option maxHeartbeats 1000000
def C_UcB : FuncId → Option Ct := addC 56 ct_Decimal (addC 106 ct_l01Dec C_Fk)
theorem C_UcB_ok : COk Tryd.prog C_UcB := addC_ok (addC_ok C_Fk_ok sat_l01Dec) sat_Decimal
def fracT (x : Int × Int) : List UInt8 := if x.2 = 1 then decT x.1 else decT x.1 ++ [47] ++ decT x.2
theorem fracT_len {x : Int × Int} (h : okF x.1 x.2 = true) : (fracT x).length ≤ 41 := by
  have hb := okF_bd h
  have l1 := decT_len (n := x.1) (by omega)
  have l2 := decT_len (n := x.2) (by omega)
  unfold fracT
  split
  · omega
  · simp only [List.length_append, List.length_cons, List.length_nil]
    omega
def ct_FracText : Ct := ctOf [.s tFrac] (fun _ => .tt) (fun (((a : Int), (b : Int)), _) => .str (if okF a b = true then fracT (a, b) else []))
set_option maxHeartbeats 1000000 in
theorem sat_FracText : Sat Tryd.prog 68 ct_FracText := by
  refine sat_typed (C := C_UcB) (L := noL) (wr := false) mixedOk Tryd.func68 C_UcB_ok (loops0 (by kernel_rfl)) (fun _ => by first | rfl | (simp [ownsOf, ownsOf.ownsL, enc, encV, encS])) fun x hp => ?_
  obtain ⟨⟨(a : Int), (b : Int)⟩, _⟩ := x
  clear hp
  have htree : exFunc Tryd.prog C_UcB false noL Tryd.f68 (encA [.s tFrac] ((a, b), ())) = .ite (!okF a b) (.leaf [.str (#[].toList)]) (.ite (b == (1 : Int)) (.need ((-9223372036854775808 : Int) ≤ a ∧ a ≤ (9223372036854775807 : Int)) (.leaf [.str (decT a)])) (.need ((-9223372036854775808 : Int) ≤ a ∧ a ≤ (9223372036854775807 : Int)) (.need ((↑(decT a).length : Int) + (↑#[(47 : UInt8)].toList.length : Int) ≤ (9223372036854775807 : Int)) (.need ((-9223372036854775808 : Int) ≤ b ∧ b ≤ (9223372036854775807 : Int)) (.need ((↑(decT a ++ #[(47 : UInt8)].toList).length : Int) + (↑(decT b).length : Int) ≤ (9223372036854775807 : Int)) (.leaf [.str (decT a ++ #[(47 : UInt8)].toList ++ decT b)])))))) := by kernel_rfl
  refine (congrArg (Tree.ok _) htree).mpr ?_
  clear htree
  cases hk : okF a b
  · simp only [Tree.ok, tyd_inj, packAV, AV.same, AV.same.sameL, encV, encS, enc, inK, Nd.ok, List.headD_cons, List.cons_append, List.nil_append, List.append_nil, true_and, and_true, Bool.true_and, Bool.and_true, hk]
    simp
  have hb := okF_bd hk
  have l1 := decT_len (n := a) (by omega)
  have l2 := decT_len (n := b) (by omega)
  have s1 : #[(47 : UInt8)].toList = [47] := rfl
  simp only [Tree.ok, tyd_inj, packAV, AV.same, AV.same.sameL, encV, encS, enc, inK, Nd.ok, List.headD_cons, List.cons_append, List.nil_append, List.append_nil, true_and, and_true, Bool.true_and, Bool.and_true, hk, s1, fracT, Bool.not_true, Bool.false_eq_true, if_true, List.length_append, List.length_cons, List.length_nil, beq_iff_eq, beq_eq_false_iff_ne, ne_eq]
  by_cases h1 : b = 1
  · simp only [h1, if_true]
    repeat' first | apply And.intro | intro _
    all_goals first | omega | trivial | rfl | contradiction
  · simp only [h1, if_false]
    repeat' first | apply And.intro | intro _
    all_goals first | omega | trivial | rfl | contradiction
def C_Uc_1 : FuncId → Option Ct := addC 68 ct_FracText C_UcB
theorem C_Uc_1_ok : COk Tryd.prog C_Uc_1 := addC_ok C_UcB_ok sat_FracText
def ct_l02Text : Ct := ctOf [.s tFrac] (fun (((a : Int), (b : Int)), _) => .p (okF a b = true)) (fun (((a : Int), (b : Int)), _) => .str (fracT (a, b)))
set_option maxHeartbeats 1000000 in
theorem sat_l02Text : Sat Tryd.prog 113 ct_l02Text := by
  refine sat_typed (C := C_Uc_1) (L := noL) (wr := false) mixedOk Tryd.func113 C_Uc_1_ok (loops0 (by kernel_rfl)) (fun _ => by first | rfl | (simp [ownsOf, ownsOf.ownsL, enc, encV, encS])) fun x hp => ?_
  obtain ⟨⟨(a : Int), (b : Int)⟩, _⟩ := x
  replace hp : okF a b = true := hp
  have htree : exFunc Tryd.prog C_Uc_1 false noL Tryd.f113 (encA [.s tFrac] ((a, b), ())) = .ite (b == (1 : Int)) (.need ((-1000000000000000000 : Int) ≤ a ∧ a ≤ (1000000000000000000 : Int)) (.leaf [.str (decT a)])) (.need ((-1000000000000000000 : Int) ≤ a ∧ a ≤ (1000000000000000000 : Int)) (.need ((↑(decT a).length : Int) + (↑#[(47 : UInt8)].toList.length : Int) ≤ (9223372036854775807 : Int)) (.need ((-1000000000000000000 : Int) ≤ b ∧ b ≤ (1000000000000000000 : Int)) (.need ((↑(decT a ++ #[(47 : UInt8)].toList).length : Int) + (↑(decT b).length : Int) ≤ (9223372036854775807 : Int)) (.leaf [.str (decT a ++ #[(47 : UInt8)].toList ++ decT b)]))))) := by kernel_rfl
  refine (congrArg (Tree.ok _) htree).mpr ?_
  clear htree
  have hb := okF_bd hp
  have l1 := decT_len (n := a) (by omega)
  have l2 := decT_len (n := b) (by omega)
  have s1 : #[(47 : UInt8)].toList = [47] := rfl
  simp only [Tree.ok, tyd_inj, packAV, AV.same, AV.same.sameL, encV, encS, enc, inK, Nd.ok, List.headD_cons, List.cons_append, List.nil_append, List.append_nil, true_and, and_true, Bool.true_and, Bool.and_true, s1, fracT, List.length_append, List.length_cons, List.length_nil, beq_iff_eq, beq_eq_false_iff_ne, ne_eq]
  by_cases h1 : b = 1
  · simp only [h1, if_true]
    repeat' first | apply And.intro | intro _
    all_goals first | omega | trivial | rfl | contradiction
  · simp only [h1, if_false]
    repeat' first | apply And.intro | intro _
    all_goals first | omega | trivial | rfl | contradiction
def C_Uc_2 : FuncId → Option Ct := addC 113 ct_l02Text C_Uc_1
theorem C_Uc_2_ok : COk Tryd.prog C_Uc_2 := addC_ok C_Uc_1_ok sat_l02Text
def ratsT (l : List (Int × Int)) : List UInt8 := l.flatMap fun r => [32] ++ fracT r
def tuneT (x : tTuning.den) : List UInt8 := fracT x.1 ++ [32] ++ fracT x.2.1 ++ ratsT x.2.2
theorem ratsT_at (xs : List tFrac.den) (i : Nat) (h : i < xs.length) : ratsT (xs.drop i) = [32] ++ fracT (atF xs i) ++ ratsT (xs.drop (i + 1)) := by
  unfold atF ratsT
  rw [List.drop_eq_getElem_cons h, getD_lt _ _ _ h, List.flatMap_cons]
theorem okFs_tune {x : tTuning.den} (h : tuneF x = true) : okFs (x.2.2 : List tFrac.den) = true := by
  have hs := rat_split x.2.2 x.2.1.1 x.2.1.2 (x.2.2 : List tFrac.den).length 0 (by omega)
  rw [List.drop_zero] at hs
  simp only [tuneF, hs, Bool.and_eq_true] at h
  exact h.2.2.2.2.2.2.1
theorem tuneF_bd {x : tTuning.den} (h : tuneF x = true) : okF x.1.1 x.1.2 = true ∧ okF x.2.1.1 x.2.1.2 = true ∧ ((x.2.2 : List tFrac.den).length : Int) ≤ 24 ∧ okFs x.2.2 = true := by
  have h1 := tune_bd h
  exact ⟨h1.1, h1.2.1, by omega, okFs_tune h⟩
def ann_iTuningText_0 : LAnn := { sameS := [18, 19], modS := [2, 3, 20], sameH := [], modH := [], base := 900000, nilE := [], nilB := [], G := fun
  | ⟨[.view (.pair (.int .i64) (.int .i64)) rs, .int .i64 n], [], [.str r, .str o, .int .i64 i], []⟩ => some (.p (n = (rs.length : Int) ∧ (0 ≤ i ∧ i ≤ n) ∧ n ≤ 24 ∧ okFs rs = true ∧ (o.length : Int) ≤ 100 + 50 * i), .leaf (.exit 0) [.str r, .str (o ++ ratsT (rs.drop i.toNat)), .unk] [])
  | _ => none }
def ct_iTuningText : Ct := ctOf [.s tTuning] (fun ((x : tTuning.den), _) => .p (((x.2.2 : List tFrac.den).length : Int) ≤ 9223372036854775807)) (fun ((x : tTuning.den), _) => .str (if tuneF x = true then tuneT x else []))
set_option maxHeartbeats 1000000 in
theorem loop_iTuningText_0 : LoopSat Tryd.prog Tryd.f21.ntmps (loopAt Tryd.f21 0) ann_iTuningText_0 := by
  refine loopSat_of (C := C_Uc_2) (L := (addL (firstId (loopAt Tryd.f21 0)) ann_iTuningText_0 noL)) (wr := false) mixedOk C_Uc_2_ok (loopsIn0 (by kernel_rfl)) (fun d => match d.same, d.vals with | [_, .int _ n], [_, _, .int _ i] => (n - i).toNat | _, _ => 0) fun d p t hG hp => ?_
  simp only [ann_iTuningText_0] at hG
  split at hG
  rotate_left
  · simp at hG
  rename_i rs n r o i
  simp only [Option.some.injEq, Prod.mk.injEq] at hG
  obtain ⟨rfl, rfl⟩ := hG
  have htree : exRound Tryd.prog C_Uc_2 false (addL (firstId (loopAt Tryd.f21 0)) ann_iTuningText_0 noL) Tryd.f21.ntmps ann_iTuningText_0 (loopAt Tryd.f21 0) ⟨[.view tFrac rs, .int .i64 n], [], [.str r, .str o, .int .i64 i], []⟩ = .ite (decide (i < n)) (.need ((0 : Int) ≤ i ∧ i < (↑rs.length : Int)) (.need ((↑#[(32 : UInt8)].toList.length : Int) + (↑(if okF (getT tFrac rs i).fst (getT tFrac rs i).snd = true then fracT ((getT tFrac rs i).fst, (getT tFrac rs i).snd) else []).length : Int) ≤ (9223372036854775807 : Int)) (.need ((↑o.length : Int) + (↑(#[(32 : UInt8)].toList ++ if okF (getT tFrac rs i).fst (getT tFrac rs i).snd = true then fracT ((getT tFrac rs i).fst, (getT tFrac rs i).snd) else []).length : Int) ≤ (9223372036854775807 : Int)) (.need (inK IntKind.i64 (i + (1 : Int))) (.leaf (.normal, ⟨[.view (I64.pair I64) (rs), .int .i64 (n)], [], [.str (r), .str (o ++ (#[(32 : UInt8)].toList ++ if okF (getT tFrac rs i).fst (getT tFrac rs i).snd = true then fracT ((getT tFrac rs i).fst, (getT tFrac rs i).snd) else [])), .int .i64 (i + (1 : Int))], []⟩)))))) (.leaf ((.exit 0), ⟨[.view (I64.pair I64) (rs), .int .i64 (n)], [], [.str (r), .str (o), .int .i64 (i)], []⟩)) := by kernel_rfl
  rw [htree]
  clear htree
  replace hp : n = (rs.length : Int) ∧ (0 ≤ i ∧ i ≤ n) ∧ n ≤ 24 ∧ okFs rs = true ∧ (o.length : Int) ≤ 100 + 50 * i := hp
  obtain ⟨rfl, hi, hn, hs, ho⟩ := hp
  have hz : ∀ (k : Int), getT tFrac rs k = atF rs k.toNat := fun _ => rfl
  have eta : ∀ z : Int × Int, (z.1, z.2) = z := fun _ => rfl
  have s1 : #[(32 : UInt8)].toList = [32] := rfl
  simp only [Tree.ok, tyd_inj, packAV, AV.same, AV.same.sameL, encV, encS, enc, inK, Nd.ok, List.headD_cons, List.cons_append, List.nil_append, List.append_nil, true_and, and_true, Bool.true_and, Bool.and_true, loop_next, weakBs_nil, weakBs_cons, weakB_self, weakB_row, weakB_int, weakL_nil, weakL_unk, weakL_guess, isRow_own, isRow_unk, weakL_int, weakL_bool, weakL_str, weakL_own, weakL_view, weakL_nilS, noRow_int, noRow_bool, own_inj, LTree.val, cond_true, cond_false, Prod.mk.injEq, List.cons.injEq, AV.int.injEq, AV.bool.injEq, AV.str.injEq, AV.agg.injEq, ann_iTuningText_0, hz, eta, s1, decide_eq_true_eq, decide_eq_false_iff_not]
  refine ⟨fun ha => ?_, fun ha => ?_⟩
  · have hy := okFs_get hs i.toNat (by omega)
    have hl := fracT_len hy
    rw [ratsT_at rs i.toNat (by omega), show (i + 1).toNat = i.toNat + 1 by omega]
    simp only [hy, if_true, List.length_append, List.length_cons, List.length_nil, List.append_assoc]
    repeat' first | apply And.intro | intro _
    all_goals first | omega | trivial | rfl | contradiction | assumption | (simp; done) | (simp; omega)
  · rw [List.drop_eq_nil_of_le (by omega)]
    simp [Tree.ok, tyd_inj, packAV, AV.same, AV.same.sameL, encV, encS, enc, inK, Nd.ok, List.headD_cons, List.cons_append, List.nil_append, List.append_nil, true_and, and_true, Bool.true_and, Bool.and_true, loop_next, weakBs_nil, weakBs_cons, weakB_self, weakB_row, weakB_int, weakL_nil, weakL_unk, weakL_guess, isRow_own, isRow_unk, weakL_int, weakL_bool, weakL_str, weakL_own, weakL_view, weakL_nilS, noRow_int, noRow_bool, own_inj, LTree.val, cond_true, cond_false, Prod.mk.injEq, List.cons.injEq, AV.int.injEq, AV.bool.injEq, AV.str.injEq, AV.agg.injEq, ratsT]
theorem loops_iTuningText : ∀ c, Tryd.f21.body = some c → LoopsOk Tryd.prog (addL (firstId (loopAt Tryd.f21 0)) ann_iTuningText_0 noL) Tryd.f21.ntmps c := loopsN fun i hi ann h => by
  have hn : loopN Tryd.f21 = 1 := by kernel_rfl
  rw [hn] at hi
  exact match i, hi, h with
    | 0, _, h => (Option.some.inj ((show (addL (firstId (loopAt Tryd.f21 0)) ann_iTuningText_0 noL) (firstId (loopAt Tryd.f21 0)) = some ann_iTuningText_0 from by kernel_rfl).symm.trans h)) ▸ loop_iTuningText_0
set_option maxHeartbeats 1000000 in
theorem sat_iTuningText : Sat Tryd.prog 21 ct_iTuningText := by
  refine sat_typed (C := C_Uc_2) (L := (addL (firstId (loopAt Tryd.f21 0)) ann_iTuningText_0 noL)) (wr := false) mixedOk Tryd.func21 C_Uc_2_ok (loops_iTuningText) (fun _ => by first | rfl | (simp [ownsOf, ownsOf.ownsL, enc, encV, encS])) fun x hp => ?_
  obtain ⟨(x : tTuning.den), _⟩ := x
  replace hp : ((x.2.2 : List tFrac.den).length : Int) ≤ 9223372036854775807 := hp
  have htree : exFunc Tryd.prog C_Uc_2 false (addL (firstId (loopAt Tryd.f21 0)) ann_iTuningText_0 noL) Tryd.f21 (encA [.s tTuning] (x, ())) = .need ((↑(List.length x.snd.snd) : Int) ≤ (9223372036854775807 : Int)) (.ite (!tuneF ((x.fst.fst, x.fst.snd), (x.snd.fst.fst, x.snd.fst.snd), x.snd.snd)) (.leaf [.str (#[].toList)]) (.need ((↑(if okF x.fst.fst x.fst.snd = true then fracT (x.fst.fst, x.fst.snd) else []).length : Int) + (↑#[(32 : UInt8)].toList.length : Int) ≤ (9223372036854775807 : Int)) (.need ((↑((if okF x.fst.fst x.fst.snd = true then fracT (x.fst.fst, x.fst.snd) else []) ++ #[(32 : UInt8)].toList).length : Int) + (↑(if okF x.snd.fst.fst x.snd.fst.snd = true then fracT (x.snd.fst.fst, x.snd.fst.snd) else []).length : Int) ≤ (9223372036854775807 : Int)) (.need ((↑(List.length x.snd.snd) : Int) = (↑(List.length x.snd.snd) : Int) ∧ ((0 : Int) ≤ (0 : Int) ∧ (0 : Int) ≤ (↑(List.length x.snd.snd) : Int)) ∧ (↑(List.length x.snd.snd) : Int) ≤ (24 : Int) ∧ okFs x.snd.snd = true ∧ (↑((if okF x.fst.fst x.fst.snd = true then fracT (x.fst.fst, x.fst.snd) else []) ++ #[(32 : UInt8)].toList ++ if okF x.snd.fst.fst x.snd.fst.snd = true then fracT (x.snd.fst.fst, x.snd.fst.snd) else []).length : Int) ≤ (100 : Int) + (50 : Int) * (0 : Int)) (.leaf [.str (((if okF x.fst.fst x.fst.snd = true then fracT (x.fst.fst, x.fst.snd) else []) ++ #[(32 : UInt8)].toList ++ if okF x.snd.fst.fst x.snd.fst.snd = true then fracT (x.snd.fst.fst, x.snd.fst.snd) else []) ++ ratsT (List.drop (Int.toNat (0 : Int)) x.snd.snd))]))))) := by kernel_rfl
  refine (congrArg (Tree.ok _) htree).mpr ?_
  clear htree
  have eta : ∀ z : Int × Int, (z.1, z.2) = z := fun _ => rfl
  have etT : ((x.1.1, x.1.2), (x.2.1.1, x.2.1.2), x.2.2) = x := rfl
  have s1 : #[(32 : UInt8)].toList = [32] := rfl
  simp only [Tree.ok, tyd_inj, packAV, AV.same, AV.same.sameL, encV, encS, enc, inK, Nd.ok, List.headD_cons, List.cons_append, List.nil_append, List.append_nil, true_and, and_true, Bool.true_and, Bool.and_true, etT, eta, s1, Int.toNat_zero, List.drop_zero]
  cases hk : tuneF x
  · simp
    try exact hp
  have hT := tuneF_bd hk
  have l1 := fracT_len hT.1
  have l2 := fracT_len hT.2.1
  simp only [hT.1, hT.2.1, if_true, tuneT, Bool.not_true, Bool.false_eq_true, List.length_append, List.length_cons, List.length_nil]
  repeat' first | apply And.intro | intro _
  all_goals first | omega | trivial | rfl | contradiction | assumption | exact hT.2.2.1 | exact hT.2.2.2 | (trace_state; fail)
def C_Uc_3 : FuncId → Option Ct := addC 21 ct_iTuningText C_Uc_2
theorem C_Uc_3_ok : COk Tryd.prog C_Uc_3 := addC_ok C_Uc_2_ok sat_iTuningText
def ann_l15Text_0 : LAnn := { sameS := [0], modS := [2, 3, 4], sameH := [], modH := [], base := 900000, nilE := [], nilB := [], G := fun
  | ⟨[.velt (.pair (.pair (.int .i64) (.int .i64)) (.pair (.pair (.int .i64) (.int .i64)) (.seq (.pair (.int .i64) (.int .i64))))) x 0], [], [.str r, .str o, .int .i64 i], []⟩ => some (.p ((0 ≤ i ∧ i ≤ ((x.2.2 : List tFrac.den).length : Int)) ∧ ((x.2.2 : List tFrac.den).length : Int) ≤ 24 ∧ okFs x.2.2 = true ∧ (o.length : Int) ≤ 100 + 50 * i), .leaf (.exit 0) [.str r, .str (o ++ ratsT ((x.2.2 : List tFrac.den).drop i.toNat)), .unk] [])
  | _ => none }
def ct_l15Text : Ct := ctOf [.p tTuning] (fun ((x : tTuning.den), _) => .p (tuneF x = true ∧ ((x.2.2 : List tFrac.den).length : Int) ≤ 24)) (fun ((x : tTuning.den), _) => .str (tuneT x))
set_option maxHeartbeats 1000000 in
theorem loop_l15Text_0 : LoopSat Tryd.prog Tryd.f64.ntmps (loopAt Tryd.f64 0) ann_l15Text_0 := by
  refine loopSat_of (C := C_Uc_3) (L := (addL (firstId (loopAt Tryd.f64 0)) ann_l15Text_0 noL)) (wr := false) mixedOk C_Uc_3_ok (loopsIn0 (by kernel_rfl)) (fun d => match d.same, d.vals with | [.velt (.pair _ (.pair _ (.seq _))) x _], [_, _, .int _ i] => ((List.length x.2.2 : Int) - i).toNat | _, _ => 0) fun d p t hG hp => ?_
  simp only [ann_l15Text_0] at hG
  split at hG
  rotate_left
  · simp at hG
  rename_i x r o i
  simp only [Option.some.injEq, Prod.mk.injEq] at hG
  obtain ⟨rfl, rfl⟩ := hG
  have htree : exRound Tryd.prog C_Uc_3 false (addL (firstId (loopAt Tryd.f64 0)) ann_l15Text_0 noL) Tryd.f64.ntmps ann_l15Text_0 (loopAt Tryd.f64 0) ⟨[.velt tTuning x 0], [], [.str r, .str o, .int .i64 i], []⟩ = .ite (decide (i < (↑(List.length x.snd.snd) : Int))) (.need ((0 : Int) ≤ i ∧ i < (↑(List.length x.snd.snd) : Int)) (.need (okF (getT tFrac x.snd.snd i).fst (getT tFrac x.snd.snd i).snd = true) (.need ((↑#[(32 : UInt8)].toList.length : Int) + (↑(fracT ((getT tFrac x.snd.snd i).fst, (getT tFrac x.snd.snd i).snd)).length : Int) ≤ (9223372036854775807 : Int)) (.need ((↑o.length : Int) + (↑(#[(32 : UInt8)].toList ++ fracT ((getT tFrac x.snd.snd i).fst, (getT tFrac x.snd.snd i).snd)).length : Int) ≤ (9223372036854775807 : Int)) (.need (inK IntKind.i64 (i + (1 : Int))) (.leaf (.normal, ⟨[.velt (tFrac.pair (tFrac.pair tFrac.seq)) (x) ((0 : Nat))], [], [.str (r), .str (o ++ (#[(32 : UInt8)].toList ++ fracT ((getT tFrac x.snd.snd i).fst, (getT tFrac x.snd.snd i).snd))), .int .i64 (i + (1 : Int))], []⟩))))))) (.leaf ((.exit 0), ⟨[.velt (tFrac.pair (tFrac.pair tFrac.seq)) (x) ((0 : Nat))], [], [.str (r), .str (o), .int .i64 (i)], []⟩)) := by kernel_rfl
  rw [htree]
  clear htree
  replace hp : (0 ≤ i ∧ i ≤ ((x.2.2 : List tFrac.den).length : Int)) ∧ ((x.2.2 : List tFrac.den).length : Int) ≤ 24 ∧ okFs x.2.2 = true ∧ (o.length : Int) ≤ 100 + 50 * i := hp
  obtain ⟨hi, hn, hs, ho⟩ := hp
  have hz : ∀ (k : Int), getT tFrac x.2.2 k = atF x.2.2 k.toNat := fun _ => rfl
  have eta : ∀ z : Int × Int, (z.1, z.2) = z := fun _ => rfl
  have s1 : #[(32 : UInt8)].toList = [32] := rfl
  simp only [Tree.ok, tyd_inj, packAV, AV.same, AV.same.sameL, encV, encS, enc, inK, Nd.ok, List.headD_cons, List.cons_append, List.nil_append, List.append_nil, true_and, and_true, Bool.true_and, Bool.and_true, loop_next, weakBs_nil, weakBs_cons, weakB_self, weakB_row, weakB_int, weakL_nil, weakL_unk, weakL_guess, isRow_own, isRow_unk, weakL_int, weakL_bool, weakL_str, weakL_own, weakL_view, weakL_nilS, noRow_int, noRow_bool, own_inj, LTree.val, cond_true, cond_false, Prod.mk.injEq, List.cons.injEq, AV.int.injEq, AV.bool.injEq, AV.str.injEq, AV.agg.injEq, ann_l15Text_0, hz, eta, s1, decide_eq_true_eq, decide_eq_false_iff_not]
  refine ⟨fun ha => ?_, fun ha => ?_⟩
  · have hy := okFs_get hs i.toNat (by omega)
    have hl := fracT_len hy
    rw [ratsT_at x.2.2 i.toNat (by omega), show (i + 1).toNat = i.toNat + 1 by omega]
    simp only [hy, if_true, List.length_append, List.length_cons, List.length_nil, List.append_assoc]
    repeat' first | apply And.intro | intro _
    all_goals first | omega | trivial | rfl | contradiction | assumption | (simp; done) | (simp; omega)
  · rw [List.drop_eq_nil_of_le (by omega)]
    simp [Tree.ok, tyd_inj, packAV, AV.same, AV.same.sameL, encV, encS, enc, inK, Nd.ok, List.headD_cons, List.cons_append, List.nil_append, List.append_nil, true_and, and_true, Bool.true_and, Bool.and_true, loop_next, weakBs_nil, weakBs_cons, weakB_self, weakB_row, weakB_int, weakL_nil, weakL_unk, weakL_guess, isRow_own, isRow_unk, weakL_int, weakL_bool, weakL_str, weakL_own, weakL_view, weakL_nilS, noRow_int, noRow_bool, own_inj, LTree.val, cond_true, cond_false, Prod.mk.injEq, List.cons.injEq, AV.int.injEq, AV.bool.injEq, AV.str.injEq, AV.agg.injEq, ratsT]
theorem loops_l15Text : ∀ c, Tryd.f64.body = some c → LoopsOk Tryd.prog (addL (firstId (loopAt Tryd.f64 0)) ann_l15Text_0 noL) Tryd.f64.ntmps c := loopsN fun i hi ann h => by
  have hn : loopN Tryd.f64 = 1 := by kernel_rfl
  rw [hn] at hi
  exact match i, hi, h with
    | 0, _, h => (Option.some.inj ((show (addL (firstId (loopAt Tryd.f64 0)) ann_l15Text_0 noL) (firstId (loopAt Tryd.f64 0)) = some ann_l15Text_0 from by kernel_rfl).symm.trans h)) ▸ loop_l15Text_0
set_option maxHeartbeats 1000000 in
theorem sat_l15Text : Sat Tryd.prog 64 ct_l15Text := by
  refine sat_typed (C := C_Uc_3) (L := (addL (firstId (loopAt Tryd.f64 0)) ann_l15Text_0 noL)) (wr := false) mixedOk Tryd.func64 C_Uc_3_ok (loops_l15Text) (fun _ => by first | rfl | (simp [ownsOf, ownsOf.ownsL, enc, encV, encS])) fun x hp => ?_
  obtain ⟨(x : tTuning.den), _⟩ := x
  replace hp : tuneF x = true ∧ ((x.2.2 : List tFrac.den).length : Int) ≤ 24 := hp
  have htree : exFunc Tryd.prog C_Uc_3 false (addL (firstId (loopAt Tryd.f64 0)) ann_l15Text_0 noL) Tryd.f64 (encA [.p tTuning] (x, ())) = .need (okF x.fst.fst x.fst.snd = true) (.need ((↑(fracT (x.fst.fst, x.fst.snd)).length : Int) + (↑#[(32 : UInt8)].toList.length : Int) ≤ (9223372036854775807 : Int)) (.need (okF x.snd.fst.fst x.snd.fst.snd = true) (.need ((↑(fracT (x.fst.fst, x.fst.snd) ++ #[(32 : UInt8)].toList).length : Int) + (↑(fracT (x.snd.fst.fst, x.snd.fst.snd)).length : Int) ≤ (9223372036854775807 : Int)) (.need (((0 : Int) ≤ (0 : Int) ∧ (0 : Int) ≤ (↑(List.length x.snd.snd) : Int)) ∧ (↑(List.length x.snd.snd) : Int) ≤ (24 : Int) ∧ okFs x.snd.snd = true ∧ (↑(fracT (x.fst.fst, x.fst.snd) ++ #[(32 : UInt8)].toList ++ fracT (x.snd.fst.fst, x.snd.fst.snd)).length : Int) ≤ (100 : Int) + (50 : Int) * (0 : Int)) (.leaf [.str (fracT (x.fst.fst, x.fst.snd) ++ #[(32 : UInt8)].toList ++ fracT (x.snd.fst.fst, x.snd.fst.snd) ++ ratsT (List.drop (Int.toNat (0 : Int)) x.snd.snd))]))))) := by kernel_rfl
  refine (congrArg (Tree.ok _) htree).mpr ?_
  clear htree
  have eta : ∀ z : Int × Int, (z.1, z.2) = z := fun _ => rfl
  have s1 : #[(32 : UInt8)].toList = [32] := rfl
  have hT := tuneF_bd hp.1
  have l1 := fracT_len hT.1
  have l2 := fracT_len hT.2.1
  simp only [Tree.ok, tyd_inj, packAV, AV.same, AV.same.sameL, encV, encS, enc, inK, Nd.ok, List.headD_cons, List.cons_append, List.nil_append, List.append_nil, true_and, and_true, Bool.true_and, Bool.and_true, eta, s1, Int.toNat_zero, List.drop_zero, tuneT, List.length_append, List.length_cons, List.length_nil]
  repeat' first | apply And.intro | intro _
  all_goals first | omega | trivial | rfl | contradiction | assumption | exact hT.1 | exact hT.2.1 | exact hT.2.2.1 | exact hT.2.2.2
def C_Uc_4 : FuncId → Option Ct := addC 64 ct_l15Text C_Uc_3
theorem C_Uc_4_ok : COk Tryd.prog C_Uc_4 := addC_ok C_Uc_3_ok sat_l15Text
def ct_sTuningText : Ct := ctOf [.s tTuning] (fun ((x : tTuning.den), _) => .p (((x.2.2 : List tFrac.den).length : Int) ≤ 9223372036854775807)) (fun ((x : tTuning.den), _) => .str (if tuneF x = true then tuneT x else []))
set_option maxHeartbeats 1000000 in
theorem sat_sTuningText : Sat Tryd.prog 19 ct_sTuningText := by
  refine sat_typed (C := C_Uc_4) (L := noL) (wr := false) mixedOk Tryd.func19 C_Uc_4_ok (loops0 (by kernel_rfl)) (fun _ => by first | rfl | (simp [ownsOf, ownsOf.ownsL, enc, encV, encS])) fun x hp => ?_
  obtain ⟨(x : tTuning.den), _⟩ := x
  replace hp : ((x.2.2 : List tFrac.den).length : Int) ≤ 9223372036854775807 := hp
  have htree : exFunc Tryd.prog C_Uc_4 false noL Tryd.f19 (encA [.s tTuning] (x, ())) = .need ((↑(List.length x.snd.snd) : Int) ≤ (9223372036854775807 : Int)) (.ite (!tuneF ((x.fst.fst, x.fst.snd), (x.snd.fst.fst, x.snd.fst.snd), x.snd.snd)) (.leaf [.str (#[].toList)]) (.need (tuneF ((x.fst.fst, x.fst.snd), (x.snd.fst.fst, x.snd.fst.snd), x.snd.snd) = true ∧ (↑(List.length x.snd.snd) : Int) ≤ (24 : Int)) (.leaf [.str (tuneT ((x.fst.fst, x.fst.snd), (x.snd.fst.fst, x.snd.fst.snd), x.snd.snd))]))) := by kernel_rfl
  refine (congrArg (Tree.ok _) htree).mpr ?_
  clear htree
  have etT : ((x.1.1, x.1.2), (x.2.1.1, x.2.1.2), x.2.2) = x := rfl
  cases hk : tuneF x
  · simp only [Tree.ok, tyd_inj, packAV, AV.same, AV.same.sameL, encV, encS, enc, inK, Nd.ok, List.headD_cons, List.cons_append, List.nil_append, List.append_nil, true_and, and_true, Bool.true_and, Bool.and_true, etT, hk]
    simp
    try exact hp
  have hT := tuneF_bd hk
  simp only [Tree.ok, tyd_inj, packAV, AV.same, AV.same.sameL, encV, encS, enc, inK, Nd.ok, List.headD_cons, List.cons_append, List.nil_append, List.append_nil, true_and, and_true, Bool.true_and, Bool.and_true, etT, hk, Bool.not_true, Bool.false_eq_true, if_true]
  repeat' first | apply And.intro | intro _
  all_goals first | omega | trivial | rfl | contradiction | assumption | exact hT.2.2.1
def C_Uc_5 : FuncId → Option Ct := addC 19 ct_sTuningText C_Uc_4
theorem C_Uc_5_ok : COk Tryd.prog C_Uc_5 := addC_ok C_Uc_4_ok sat_sTuningText
def ct_lawTuningText : Ct := ctOf [.s tTuning] (fun ((x : tTuning.den), _) => .p (((x.2.2 : List tFrac.den).length : Int) ≤ 9223372036854775807)) (fun ((x : tTuning.den), _) => .bool true)
set_option maxHeartbeats 1000000 in
theorem sat_lawTuningText : Sat Tryd.prog 5 ct_lawTuningText := by
  refine sat_typed (C := C_Uc_5) (L := noL) (wr := false) mixedOk Tryd.func5 C_Uc_5_ok (loops0 (by kernel_rfl)) (fun _ => by first | rfl | (simp [ownsOf, ownsOf.ownsL, enc, encV, encS])) fun x hp => ?_
  obtain ⟨(x : tTuning.den), _⟩ := x
  replace hp : ((x.2.2 : List tFrac.den).length : Int) ≤ 9223372036854775807 := hp
  have htree : exFunc Tryd.prog C_Uc_5 false noL Tryd.f5 (encA [.s tTuning] (x, ())) = .need (((0 : Int) ≤ (1048576 : Int) ∧ (1048576 : Int) ≤ (1048576 : Int)) ∧ (↑(List.length x.snd.snd) : Int) ≤ (9223372036854775807 : Int)) (.ite (decide ((if (1048576 : Int) - (↑(List.length x.snd.snd) : Int) < (0 : Int) then (-1 : Int) else (1048576 : Int) - (↑(List.length x.snd.snd) : Int)) < (0 : Int))) (.leaf [.lit true]) (.need (List.length x.snd.snd ≤ (16777216 : Nat)) (.need ((↑(List.length x.snd.snd) : Int) ≤ (9223372036854775807 : Int)) (.need (List.length x.snd.snd ≤ (16777216 : Nat)) (.need ((↑(List.length x.snd.snd) : Int) ≤ (9223372036854775807 : Int)) (.ite (!decide ((if tuneF ((x.fst.fst, x.fst.snd), (x.snd.fst.fst, x.snd.fst.snd), x.snd.snd) = true then tuneT ((x.fst.fst, x.fst.snd), (x.snd.fst.fst, x.snd.fst.snd), x.snd.snd) else []) = if tuneF ((x.fst.fst, x.fst.snd), (x.snd.fst.fst, x.snd.fst.snd), x.snd.snd) = true then tuneT ((x.fst.fst, x.fst.snd), (x.snd.fst.fst, x.snd.fst.snd), x.snd.snd) else [])) (.leaf [.lit false]) (.need (List.length x.snd.snd ≤ (16777216 : Nat)) (.need ((↑(List.length x.snd.snd) : Int) ≤ (9223372036854775807 : Int)) (.ite (!decide (x.fst.fst = x.fst.fst ∧ x.fst.snd = x.fst.snd ∧ x.snd.fst.fst = x.snd.fst.fst ∧ x.snd.fst.snd = x.snd.fst.snd ∧ x.snd.snd = x.snd.snd)) (.leaf [.lit false]) (.leaf [.lit true])))))))))) := by kernel_rfl
  refine (congrArg (Tree.ok _) htree).mpr ?_
  clear htree
  have etT : ((x.1.1, x.1.2), (x.2.1.1, x.2.1.2), x.2.2) = x := rfl
  simp only [Tree.ok, tyd_inj, packAV, AV.same, AV.same.sameL, encV, encS, enc, inK, Nd.ok, List.headD_cons, List.cons_append, List.nil_append, List.append_nil, true_and, and_true, Bool.true_and, Bool.and_true, etT]
  repeat' first | apply And.intro | intro _
  all_goals first | omega | trivial | rfl | contradiction | assumption | (simp_all; done) | grind
def C_Uc_6 : FuncId → Option Ct := addC 5 ct_lawTuningText C_Uc_5
theorem C_Uc_6_ok : COk Tryd.prog C_Uc_6 := addC_ok C_Uc_5_ok sat_lawTuningText

def C_Uc : FuncId → Option Ct := C_Uc_6
theorem C_Uc_ok : COk Tryd.prog C_Uc := C_Uc_6_ok
end Go.Proofs.YtkeckmdmmbeaiaaDoor
