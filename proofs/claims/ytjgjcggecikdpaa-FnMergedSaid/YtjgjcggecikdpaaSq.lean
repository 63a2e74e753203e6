/- Contracts: scores quantized; the law. Conditions: as each says. -/
import Derived.Test.YtjgjcggecikdpaaSqL
set_option linter.unusedSimpArgs false
set_option linter.unusedVariables false
namespace Go.Proofs.Ytjgjcggecikdpaa
open Go.RowKit Sx
set_option maxRecDepth 100000
set_option maxHeartbeats 1000000
def ct_floorDivQ : Ct := ctOf [.v (.int .i64), .v (.int .i64)] (fun ((a : Int), (b : Int), _) => .p (1 ≤ b ∧ -9223372036854775807 ≤ a ∧ a ≤ 9223372036854775807)) (fun ((a : Int), (b : Int), _) => .int .i64 (a / b))
set_option maxHeartbeats 1000000 in
theorem sat_floorDivQ : Sat Try.prog 177 ct_floorDivQ := by
  refine sat_typed (C := C_Sc) (L := noL) (wr := false) mixedOk Try.func177 C_Sc_ok (loops0 (by kernel_rfl)) (fun _ => by first | rfl | (simp [ownsOf, ownsOf.ownsL, enc, encV, encS])) fun x hp => ?_
  obtain ⟨(a : Int), (b : Int), _⟩ := x
  replace hp : 1 ≤ b ∧ -9223372036854775807 ≤ a ∧ a ≤ 9223372036854775807 := hp
  have htree : exFunc Try.prog C_Sc false noL Try.f177 (encA [.v (.int .i64), .v (.int .i64)] (a, b, ())) = .need (b ≠ (0 : Int) ∧ inK IntKind.i64 (a.tdiv b)) (.need (b ≠ (0 : Int)) (.ite (decide (a.tmod b < (0 : Int))) (.need (inK IntKind.i64 (a.tdiv b - (1 : Int))) (.leaf [.int .i64 (a.tdiv b - (1 : Int))])) (.leaf [.int .i64 (a.tdiv b)]))) := by kernel_rfl
  refine (congrArg (Tree.ok _) htree).mpr ?_
  clear htree
  have h1 := fdiv_rule a b hp.1
  have h2 := tdiv_small a b hp.1
  simp only [Tree.ok, tyd_inj, packAV, AV.same, AV.same.sameL, encV, encS, enc, inK, Nd.ok, List.headD_cons, List.cons_append, List.nil_append, List.append_nil, true_and, and_true, Bool.true_and, Bool.and_true, decide_eq_true_eq, decide_eq_false_iff_not]
  generalize a.tdiv b = q at *
  generalize a.tmod b = r at *
  generalize a / b = e at *
  omega
def C_Sq_1 : FuncId → Option Ct := addC 177 ct_floorDivQ C_Sc
theorem C_Sq_1_ok : COk Try.prog C_Sq_1 := addC_ok C_Sc_ok sat_floorDivQ
def ct_l02DivQ : Ct := ctOf [.v (.int .i64), .v (.int .i64)] (fun ((a : Int), (b : Int), _) => .p (1 ≤ b ∧ -9223372036854775807 ≤ a ∧ a ≤ 9223372036854775807)) (fun ((a : Int), (b : Int), _) => .int .i64 (a / b))
set_option maxHeartbeats 1000000 in
theorem sat_l02DivQ : Sat Try.prog 189 ct_l02DivQ := by
  refine sat_typed (C := C_Sq_1) (L := noL) (wr := false) mixedOk Try.func189 C_Sq_1_ok (loops0 (by kernel_rfl)) (fun _ => by first | rfl | (simp [ownsOf, ownsOf.ownsL, enc, encV, encS])) fun x hp => ?_
  obtain ⟨(a : Int), (b : Int), _⟩ := x
  replace hp : 1 ≤ b ∧ -9223372036854775807 ≤ a ∧ a ≤ 9223372036854775807 := hp
  have htree : exFunc Try.prog C_Sq_1 false noL Try.f189 (encA [.v (.int .i64), .v (.int .i64)] (a, b, ())) = .need (b ≠ (0 : Int) ∧ inK IntKind.i64 (a.tdiv b)) (.need (b ≠ (0 : Int)) (.ite (decide (a.tmod b < (0 : Int))) (.need (inK IntKind.i64 (a.tdiv b - (1 : Int))) (.leaf [.int .i64 (a.tdiv b - (1 : Int))])) (.leaf [.int .i64 (a.tdiv b)]))) := by kernel_rfl
  refine (congrArg (Tree.ok _) htree).mpr ?_
  clear htree
  have h1 := fdiv_rule a b hp.1
  have h2 := tdiv_small a b hp.1
  simp only [Tree.ok, tyd_inj, packAV, AV.same, AV.same.sameL, encV, encS, enc, inK, Nd.ok, List.headD_cons, List.cons_append, List.nil_append, List.append_nil, true_and, and_true, Bool.true_and, Bool.and_true, decide_eq_true_eq, decide_eq_false_iff_not]
  generalize a.tdiv b = q at *
  generalize a.tmod b = r at *
  generalize a / b = e at *
  omega
def C_Sq_2 : FuncId → Option Ct := addC 189 ct_l02DivQ C_Sq_1
theorem C_Sq_2_ok : COk Try.prog C_Sq_2 := addC_ok C_Sq_1_ok sat_l02DivQ
def nearX (a g : Fr) : (Int × Int) × Int := mkF ((2 * (a.1 * g.2) + a.2 * g.1) / (2 * (a.2 * g.1)) * g.1) g.2
def quN (g : Fr) (x : tNote.den) : tNote.den := ((nearX x.1 g).1, x.2)
def quS (xs : List tNote.den) (g : Fr) : List tNote.den × Int := if scoreF xs = true ∧ okF g.1 g.2 = true then (if g.1 ≤ 0 then ([], 2) else if notesF (xs.map (quN g)) = true then (cptL (srt ltN (xs.map (quN g))), 0) else ([], 2)) else ([], 1)
theorem near_bd {a g : Fr} (ha : beatF a.1 a.2 = true) (hg : okF g.1 g.2 = true) (h0 : 0 < g.1) :
    (0 ≤ a.1 * g.2 ∧ a.1 * g.2 ≤ 1000000000000000) ∧ (1 ≤ a.2 * g.1 ∧ a.2 * g.1 ≤ 1000000000000000) ∧ (0 ≤ (2 * (a.1 * g.2) + a.2 * g.1) / (2 * (a.2 * g.1)) * g.1 ∧ (2 * (a.1 * g.2) + a.2 * g.1) / (2 * (a.2 * g.1)) * g.1 ≤ 3000000000000000) ∧ (1 ≤ g.2 ∧ g.2 ≤ 1000000) ∧ (0 ≤ (2 * (a.1 * g.2) + a.2 * g.1) / (2 * (a.2 * g.1)) ∧ (2 * (a.1 * g.2) + a.2 * g.1) / (2 * (a.2 * g.1)) ≤ 3000000000000000) := by
  simp only [beatF, Bool.and_eq_true, decide_eq_true_eq] at ha
  have b1 := okF_bd ha.1
  have b2 := okF_bd hg
  have x1 := mul_bd b1.2 b2.1
  have x0 : 0 ≤ a.1 * g.2 := Int.mul_nonneg ha.2.1 (by omega)
  have y0 : 1 * 1 ≤ a.2 * g.1 := Int.mul_le_mul b1.1.1 (by omega) (by omega) (by omega)
  have y1 : a.2 * g.1 ≤ 1000000 * 1000000000 := Int.mul_le_mul b1.1.2 b2.2.2 (by omega) (by omega)
  have y2 : 1 * g.1 ≤ a.2 * g.1 := Int.mul_le_mul_of_nonneg_right b1.1.1 (by omega)
  generalize a.1 * g.2 = x at *
  generalize a.2 * g.1 = y at *
  have m0 : 0 ≤ (2 * x + y) / (2 * y) := Int.ediv_nonneg (by omega) (by omega)
  have m1 := Int.ediv_mul_le (2 * x + y) (b := 2 * y) (by omega)
  generalize (2 * x + y) / (2 * y) = m at *
  have z1 : m * g.1 ≤ m * y := Int.mul_le_mul_of_nonneg_left (by omega) m0
  have z0 : 0 ≤ m * g.1 := Int.mul_nonneg m0 (by omega)
  have z2 : m * (2 * y) = 2 * (m * y) := by grind
  have z3 : m * 1 ≤ m * y := Int.mul_le_mul_of_nonneg_left (by omega) m0
  refine ⟨by omega, by omega, by omega, by omega, by omega⟩
theorem mkF_zero_code (n d : Int) : (mkF n d).2 = 0 ∨ (mkF n d).1 = (0, 0) := by
  unfold mkF
  repeat' split
  all_goals first | exact .inl rfl | exact .inr rfl
theorem near_val {x : tNote.den} {g : Fr} (h : noteF (quN g x) = true) : (nearX x.1 g).2 = 0 := by
  have h1 : noteF ((nearX x.1 g).1, x.2) = true := h
  simp only [noteF, beatF, Bool.and_eq_true] at h1
  have h2 := h1.1.1
  unfold nearX at *
  rcases mkF_zero_code (((2 * (x.1.1 * g.2) + x.1.2 * g.1) / (2 * (x.1.2 * g.1)) * g.1)) g.2 with e | e
  · exact e
  · rw [e] at h2; simp [okF, inB_iff] at h2
def ct_nearest : Ct := ctOf [.s tFrac, .s tFrac] (fun ((a : tFrac.den), (g : tFrac.den), _) => .p (beatF a.1 a.2 = true ∧ okF g.1 g.2 = true ∧ (0 : Int) < g.1)) (fun ((a : tFrac.den), (g : tFrac.den), _) => .tup [.agg (enc tFrac (nearX a g).1), .int .i64 (nearX a g).2])
set_option maxHeartbeats 1000000 in
theorem sat_nearest : Sat Try.prog 138 ct_nearest := by
  refine sat_typed (C := C_Sq_2) (L := noL) (wr := false) mixedOk Try.func138 C_Sq_2_ok (loops0 (by kernel_rfl)) (fun _ => by first | rfl | (simp [ownsOf, ownsOf.ownsL, enc, encV, encS])) fun x hp => ?_
  obtain ⟨(a : tFrac.den), (g : tFrac.den), _⟩ := x
  replace hp : beatF a.1 a.2 = true ∧ okF g.1 g.2 = true ∧ (0 : Int) < g.1 := hp
  have htree : exFunc Try.prog C_Sq_2 false noL Try.f138 (encA [.s tFrac, .s tFrac] (a, g, ())) = .need (inK IntKind.i64 (a.fst * g.snd)) (.need (inK IntKind.i64 (a.snd * g.fst)) (.need (inK IntKind.i64 ((2 : Int) * (a.fst * g.snd))) (.need (inK IntKind.i64 ((2 : Int) * (a.fst * g.snd) + a.snd * g.fst)) (.need (inK IntKind.i64 ((2 : Int) * (a.snd * g.fst))) (.need ((1 : Int) ≤ (2 : Int) * (a.snd * g.fst) ∧ (-9223372036854775807 : Int) ≤ (2 : Int) * (a.fst * g.snd) + a.snd * g.fst ∧ (2 : Int) * (a.fst * g.snd) + a.snd * g.fst ≤ (9223372036854775807 : Int)) (.need (inK IntKind.i64 (((2 : Int) * (a.fst * g.snd) + a.snd * g.fst) / ((2 : Int) * (a.snd * g.fst)) * g.fst)) (.need (((-9223372036854775808 : Int) ≤ ((2 : Int) * (a.fst * g.snd) + a.snd * g.fst) / ((2 : Int) * (a.snd * g.fst)) * g.fst ∧ ((2 : Int) * (a.fst * g.snd) + a.snd * g.fst) / ((2 : Int) * (a.snd * g.fst)) * g.fst ≤ (9223372036854775807 : Int)) ∧ (-9223372036854775808 : Int) ≤ g.snd ∧ g.snd ≤ (9223372036854775807 : Int)) (.leaf [.agg [.int .i64 ((mkF (((2 : Int) * (a.fst * g.snd) + a.snd * g.fst) / ((2 : Int) * (a.snd * g.fst)) * g.fst) g.snd).fst.fst), .int .i64 ((mkF (((2 : Int) * (a.fst * g.snd) + a.snd * g.fst) / ((2 : Int) * (a.snd * g.fst)) * g.fst) g.snd).fst.snd)], .int .i64 ((mkF (((2 : Int) * (a.fst * g.snd) + a.snd * g.fst) / ((2 : Int) * (a.snd * g.fst)) * g.fst) g.snd).snd)])))))))) := by kernel_rfl
  refine (congrArg (Tree.ok _) htree).mpr ?_
  clear htree
  have hb := near_bd hp.1 hp.2.1 hp.2.2
  have e : nearX a g = mkF ((2 * (a.1 * g.2) + a.2 * g.1) / (2 * (a.2 * g.1)) * g.1) g.2 := rfl
  simp only [Tree.ok, tyd_inj, packAV, AV.same, AV.same.sameL, encV, encS, enc, inK, Nd.ok, List.headD_cons, List.cons_append, List.nil_append, List.append_nil, true_and, and_true, Bool.true_and, Bool.and_true, e]
  clear e
  generalize a.1 * g.2 = x at *
  generalize a.2 * g.1 = y at *
  generalize (2 * x + y) / (2 * y) = m at *
  repeat' first | apply And.intro | intro _
  all_goals first | omega | exact Int.le_trans hb.2.2.2.1.2 (by decide) | exact Int.le_trans (by decide) hb.2.2.2.1.1 | trivial | rfl
def C_Sq_3 : FuncId → Option Ct := addC 138 ct_nearest C_Sq_2
theorem C_Sq_3_ok : COk Try.prog C_Sq_3 := addC_ok C_Sq_2_ok sat_nearest
def ct_l18Near : Ct := ctOf [.s tFrac, .s tFrac] (fun ((a : tFrac.den), (g : tFrac.den), _) => .p (beatF a.1 a.2 = true ∧ okF g.1 g.2 = true ∧ (0 : Int) < g.1)) (fun ((a : tFrac.den), (g : tFrac.den), _) => .tup [.agg (enc tFrac (nearX a g).1), .bool (decide ((nearX a g).2 = 0))])
set_option maxHeartbeats 1000000 in
theorem sat_l18Near : Sat Try.prog 135 ct_l18Near := by
  refine sat_typed (C := C_Sq_3) (L := noL) (wr := false) mixedOk Try.func135 C_Sq_3_ok (loops0 (by kernel_rfl)) (fun _ => by first | rfl | (simp [ownsOf, ownsOf.ownsL, enc, encV, encS])) fun x hp => ?_
  obtain ⟨(a : tFrac.den), (g : tFrac.den), _⟩ := x
  replace hp : beatF a.1 a.2 = true ∧ okF g.1 g.2 = true ∧ (0 : Int) < g.1 := hp
  have htree : exFunc Try.prog C_Sq_3 false noL Try.f135 (encA [.s tFrac, .s tFrac] (a, g, ())) = .need (inK IntKind.i64 (a.fst * g.snd)) (.need (inK IntKind.i64 (a.snd * g.fst)) (.need (inK IntKind.i64 ((2 : Int) * (a.fst * g.snd))) (.need (inK IntKind.i64 ((2 : Int) * (a.fst * g.snd) + a.snd * g.fst)) (.need (inK IntKind.i64 ((2 : Int) * (a.snd * g.fst))) (.need ((1 : Int) ≤ (2 : Int) * (a.snd * g.fst) ∧ (-9223372036854775807 : Int) ≤ (2 : Int) * (a.fst * g.snd) + a.snd * g.fst ∧ (2 : Int) * (a.fst * g.snd) + a.snd * g.fst ≤ (9223372036854775807 : Int)) (.need (inK IntKind.i64 (((2 : Int) * (a.fst * g.snd) + a.snd * g.fst) / ((2 : Int) * (a.snd * g.fst)) * g.fst)) (.need (((-9223372036854775808 : Int) ≤ ((2 : Int) * (a.fst * g.snd) + a.snd * g.fst) / ((2 : Int) * (a.snd * g.fst)) * g.fst ∧ ((2 : Int) * (a.fst * g.snd) + a.snd * g.fst) / ((2 : Int) * (a.snd * g.fst)) * g.fst ≤ (9223372036854775807 : Int)) ∧ (-9223372036854775808 : Int) ≤ g.snd ∧ g.snd ≤ (9223372036854775807 : Int)) (.leaf [.agg [.int .i64 ((mkF (((2 : Int) * (a.fst * g.snd) + a.snd * g.fst) / ((2 : Int) * (a.snd * g.fst)) * g.fst) g.snd).fst.fst), .int .i64 ((mkF (((2 : Int) * (a.fst * g.snd) + a.snd * g.fst) / ((2 : Int) * (a.snd * g.fst)) * g.fst) g.snd).fst.snd)], .bool ((mkF (((2 : Int) * (a.fst * g.snd) + a.snd * g.fst) / ((2 : Int) * (a.snd * g.fst)) * g.fst) g.snd).snd == (0 : Int))])))))))) := by kernel_rfl
  refine (congrArg (Tree.ok _) htree).mpr ?_
  clear htree
  have hb := near_bd hp.1 hp.2.1 hp.2.2
  have e : nearX a g = mkF ((2 * (a.1 * g.2) + a.2 * g.1) / (2 * (a.2 * g.1)) * g.1) g.2 := rfl
  simp only [Tree.ok, tyd_inj, packAV, AV.same, AV.same.sameL, encV, encS, enc, inK, Nd.ok, List.headD_cons, List.cons_append, List.nil_append, List.append_nil, true_and, and_true, Bool.true_and, Bool.and_true, e]
  clear e
  generalize a.1 * g.2 = x at *
  generalize a.2 * g.1 = y at *
  generalize (2 * x + y) / (2 * y) = m at *
  repeat' first | apply And.intro | intro _
  all_goals first | omega | exact Int.le_trans hb.2.2.2.1.2 (by decide) | exact Int.le_trans (by decide) hb.2.2.2.1.1 | trivial | rfl
def C_Sq_4 : FuncId → Option Ct := addC 135 ct_l18Near C_Sq_3
theorem C_Sq_4_ok : COk Try.prog C_Sq_4 := addC_ok C_Sq_3_ok sat_l18Near
def ct_cloQuantize : Ct := ctOf [.s tNote, .s tNote] (fun ((x : tNote.den), (y : tNote.den), _) => .p (noteF x = true ∧ noteF y = true)) (fun ((x : tNote.den), (y : tNote.den), _) => .bool (decide (cmpN x y = 0)))
set_option maxHeartbeats 1000000 in
theorem sat_cloQuantize : Sat Try.prog 142 ct_cloQuantize := by
  refine sat_typed (C := C_Sq_4) (L := noL) (wr := false) mixedOk Try.func142 C_Sq_4_ok (loops0 (by kernel_rfl)) (fun _ => by first | rfl | (simp [ownsOf, ownsOf.ownsL, enc, encV, encS])) fun x hp => ?_
  obtain ⟨(x : tNote.den), (y : tNote.den), _⟩ := x
  replace hp : noteF x = true ∧ noteF y = true := hp
  have htree : exFunc Try.prog C_Sq_4 false noL Try.f142 (encA [.s tNote, .s tNote] (x, y, ())) = .need (noteF x = true ∧ noteF y = true) (.leaf [.bool (cmpN x y == (0 : Int))]) := by kernel_rfl
  refine (congrArg (Tree.ok _) htree).mpr ?_
  clear htree
  simp only [Tree.ok, tyd_inj, packAV, AV.same, AV.same.sameL, encV, encS, enc, inK, Nd.ok, List.headD_cons, List.cons_append, List.nil_append, List.append_nil, true_and, and_true, Bool.true_and, Bool.and_true]
  repeat' first | apply And.intro | intro _
  all_goals first | exact hp.1 | exact hp.2 | exact hp | trivial | rfl | (rw [Bool.eq_iff_iff]; simp; done)
def C_Sq_5 : FuncId → Option Ct := addC 142 ct_cloQuantize C_Sq_4
theorem C_Sq_5_ok : COk Try.prog C_Sq_5 := addC_ok C_Sq_4_ok sat_cloQuantize
def ann_compactN_0 : LAnn := { sameS := [0, 1], modS := [4, 5], sameH := [], modH := [700000], base := 900000, nilE := [], nilB := [], G := fun
  | ⟨[.row 700000, .fn 142], [], [.nilS, .int .i64 k], [[.agg [.own (.pair (.pair (.int .i64) (.int .i64)) (.pair (.pair (.int .i64) (.int .i64)) (.pair (.int .i64) (.pair (.int .i64) (.int .i64))))) l]]]⟩ => some (.p ((1 ≤ k ∧ k ≤ (l.length : Int)) ∧ l.length ≤ 1000 ∧ AllOk goodN l ∧ ∀ j, 1 ≤ j → j < k.toNat → cmpN (l.getD j tNote.zero) (l.getD (j - 1) tNote.zero) ≠ 0), .ite (twH l (l.length - k.toNat) k.toNat) (.leaf .ret [.part 7 700000 0 (twR l (l.length - k.toNat) k.toNat).2, .unk] [[.agg [.own tNote (twR l (l.length - k.toNat) k.toNat).1]]]) (.leaf (.exit 0) [.nilS, .unk] [[.agg [.own tNote l]]]))
  | _ => none }
def ann_compactN_1 : LAnn := { sameS := [0, 1, 6], modS := [5, 7], sameH := [], modH := [700000], base := 900000, nilE := [], nilB := [], G := fun
  | ⟨[.row 700000, .fn 142, .part 7 700000 off n], [], [.int .i64 k, .int .i64 j], [[.agg [.own (.pair (.pair (.int .i64) (.int .i64)) (.pair (.pair (.int .i64) (.int .i64)) (.pair (.int .i64) (.pair (.int .i64) (.int .i64))))) l]]]⟩ => some (.p ((1 ≤ j ∧ j ≤ (n : Int)) ∧ off + n = l.length ∧ (0 ≤ k ∧ k ≤ (off : Int) + j - 1) ∧ l.length ≤ 1000 ∧ AllOk goodN l), .leaf (.exit 2) [.int .i64 ((cwGo off (n - j.toNat) j.toNat l k.toNat).2 : Int), .unk] [[.agg [.own tNote (cwGo off (n - j.toNat) j.toNat l k.toNat).1]]])
  | _ => none }
def ct_compactN : Ct := ctOfM [.ov qNote, .f 142] (fun ((l : List tNote.den), _, _) => .p (l.length ≤ 1000 ∧ AllOk goodN l)) (fun ((l : List tNote.den), _, _) => .own tNote (cptL l))
set_option maxHeartbeats 1000000 in
theorem loop_compactN_1 : LoopSat Try.prog Try.f140.ntmps (loopAt Try.f140 1) ann_compactN_1 := by
  refine loopSat_of (C := C_Sq_5) (L := (addL (firstId (loopAt Try.f140 1)) ann_compactN_1 (addL (firstId (loopAt Try.f140 0)) ann_compactN_0 noL))) (wr := false) mixedOk C_Sq_5_ok (loopsIn0 (by kernel_rfl)) (fun d => match d.same, d.vals with | [_, _, .part _ _ _ n], [_, .int _ j] => ((n : Int) - j).toNat | _, _ => 0) fun d p t hG hp => ?_
  simp only [ann_compactN_1] at hG
  split at hG
  rotate_left
  · simp at hG
  rename_i off n k j l
  simp only [Option.some.injEq, Prod.mk.injEq] at hG
  obtain ⟨rfl, rfl⟩ := hG
  have htree : exRound Try.prog C_Sq_5 false (addL (firstId (loopAt Try.f140 1)) ann_compactN_1 (addL (firstId (loopAt Try.f140 0)) ann_compactN_0 noL)) Try.f140.ntmps ann_compactN_1 (loopAt Try.f140 1) ⟨[.row 700000, .fn 142, .part 7 700000 off n], [], [.int .i64 k, .int .i64 j], [[.agg [.own tNote l]]]⟩ = .ite (decide (j < (↑n : Int))) (.need ((0 : Int) ≤ j ∧ j < (↑n : Int)) (.need (off + j.toNat < l.length) (.need (inK IntKind.i64 (j - (1 : Int))) (.need ((0 : Int) ≤ j - (1 : Int) ∧ j - (1 : Int) < (↑n : Int)) (.need (off + (j - (1 : Int)).toNat < l.length) (.need (noteF (l.getD (off + j.toNat) tNote.zero) = true ∧ noteF (l.getD (off + (j - (1 : Int)).toNat) tNote.zero) = true) (.ite (!decide (cmpN (l.getD (off + j.toNat) tNote.zero) (l.getD (off + (j - (1 : Int)).toNat) tNote.zero) = (0 : Int))) (.need ((0 : Int) ≤ j ∧ j < (↑n : Int)) (.need (off + j.toNat < l.length) (.need ((0 : Int) ≤ k ∧ k < (↑l.length : Int)) (.need (k.toNat < l.length) (.need (inK IntKind.i64 (k + (1 : Int))) (.need (inK IntKind.i64 (j + (1 : Int))) (.leaf (.normal, ⟨[.row 700000, .fn 142, .part 7 700000 (off) (n)], [], [.int .i64 (k + (1 : Int)), .int .i64 (j + (1 : Int))], [[.agg [.own (tFrac.pair (tFrac.pair (I64.pair (I64.pair I64)))) (l.set k.toNat (l.getD (off + j.toNat) tNote.zero))]]]⟩)))))))) (.need (inK IntKind.i64 (j + (1 : Int))) (.leaf (.normal, ⟨[.row 700000, .fn 142, .part 7 700000 (off) (n)], [], [.int .i64 (k), .int .i64 (j + (1 : Int))], [[.agg [.own (tFrac.pair (tFrac.pair (I64.pair (I64.pair I64)))) (l)]]]⟩)))))))))) (.leaf ((.exit 2), ⟨[.row 700000, .fn 142, .part 7 700000 (off) (n)], [], [.int .i64 (k), .int .i64 (j)], [[.agg [.own (tFrac.pair (tFrac.pair (I64.pair (I64.pair I64)))) (l)]]]⟩)) := by kernel_rfl
  rw [htree]
  clear htree
  replace hp : (1 ≤ j ∧ j ≤ (n : Int)) ∧ off + n = l.length ∧ (0 ≤ k ∧ k ≤ (off : Int) + j - 1) ∧ l.length ≤ 1000 ∧ AllOk goodN l := hp
  obtain ⟨hj, hoff, hk, hl, ho⟩ := hp
  simp only [Tree.ok, tyd_inj, packAV, AV.same, AV.same.sameL, encV, encS, enc, inK, Nd.ok, List.headD_cons, List.cons_append, List.nil_append, List.append_nil, true_and, and_true, Bool.true_and, Bool.and_true, loop_next, weakBs_nil, weakBs_cons, weakB_self, weakB_row, weakB_int, weakL_nil, weakL_unk, weakL_guess, isRow_own, isRow_unk, weakL_int, weakL_bool, weakL_str, weakL_own, weakL_view, weakL_nilS, noRow_int, noRow_bool, own_inj, LTree.val, cond_true, cond_false, Prod.mk.injEq, List.cons.injEq, AV.int.injEq, AV.bool.injEq, AV.str.injEq, AV.agg.injEq, ann_compactN_1, Int.toNat_natCast, decide_eq_true_eq, decide_eq_false_iff_not, Bool.not_eq_true', Bool.not_eq_false']
  refine ⟨fun ha => ?_, fun ha => ?_⟩
  · have hs := cw_step off n j.toNat l k.toNat (by omega)
    have e1 : off + (j - 1).toNat = off + j.toNat - 1 := by omega
    have e2 : (j + 1).toNat = j.toNat + 1 := by omega
    have e3 : (k + 1).toNat = k.toNat + 1 := by omega
    have g1 := allOk_get ho tNote.zero (i := off + j.toNat) (by omega)
    have g2 := allOk_get ho tNote.zero (i := off + j.toNat - 1) (by omega)
    rw [hs]
    simp only [e1, e2, e3]
    have g3 : AllOk goodN (l.set k.toNat (l.getD (off + j.toNat) tNote.zero)) := fun x hx => by
      rcases List.mem_or_eq_of_mem_set hx with h | h
      · exact ho x h
      · rw [h]; exact g1
    by_cases hc : cmpN (l.getD (off + j.toNat) tNote.zero) (l.getD (off + j.toNat - 1) tNote.zero) = 0
    · simp only [if_pos hc]
      repeat' first | apply And.intro | intro _
      all_goals first | omega | assumption | exact ho _ ‹_› | exact g1 | exact g2 | trivial | rfl | contradiction
    · simp only [if_neg hc, List.length_set]
      repeat' first | apply And.intro | intro _
      all_goals first | omega | assumption | exact g3 _ ‹_› | exact g1 | exact g2 | trivial | rfl | contradiction
  · rw [show n - j.toNat = 0 by omega]
    simp [Tree.ok, tyd_inj, packAV, AV.same, AV.same.sameL, encV, encS, enc, inK, Nd.ok, List.headD_cons, List.cons_append, List.nil_append, List.append_nil, true_and, and_true, Bool.true_and, Bool.and_true, loop_next, weakBs_nil, weakBs_cons, weakB_self, weakB_row, weakB_int, weakL_nil, weakL_unk, weakL_guess, isRow_own, isRow_unk, weakL_int, weakL_bool, weakL_str, weakL_own, weakL_view, weakL_nilS, noRow_int, noRow_bool, own_inj, LTree.val, cond_true, cond_false, Prod.mk.injEq, List.cons.injEq, AV.int.injEq, AV.bool.injEq, AV.str.injEq, AV.agg.injEq, cwGo]
    try omega
set_option maxHeartbeats 1000000 in
theorem loop_compactN_0 : LoopSat Try.prog Try.f140.ntmps (loopAt Try.f140 0) ann_compactN_0 := by
  refine loopSat_of (C := C_Sq_5) (L := (addL (firstId (loopAt Try.f140 1)) ann_compactN_1 (addL (firstId (loopAt Try.f140 0)) ann_compactN_0 noL))) (wr := false) mixedOk C_Sq_5_ok (loopsIn1 (b := loopAt Try.f140 1) (by kernel_rfl) (fun ann h => (Option.some.inj ((show (addL (firstId (loopAt Try.f140 1)) ann_compactN_1 (addL (firstId (loopAt Try.f140 0)) ann_compactN_0 noL)) (firstId (loopAt Try.f140 1)) = some ann_compactN_1 from by kernel_rfl).symm.trans h)) ▸ loop_compactN_1)) (fun d => match d.vals, d.boxes with | [_, .int _ k], [[.agg [.own _ l]]] => ((l.length : Int) - k).toNat | _, _ => 0) fun d p t hG hp => ?_
  simp only [ann_compactN_0] at hG
  split at hG
  rotate_left
  · simp at hG
  rename_i k l
  simp only [Option.some.injEq, Prod.mk.injEq] at hG
  obtain ⟨rfl, rfl⟩ := hG
  have htree : exRound Try.prog C_Sq_5 false (addL (firstId (loopAt Try.f140 1)) ann_compactN_1 (addL (firstId (loopAt Try.f140 0)) ann_compactN_0 noL)) Try.f140.ntmps ann_compactN_0 (loopAt Try.f140 0) ⟨[.row 700000, .fn 142], [], [.nilS, .int .i64 k], [[.agg [.own tNote l]]]⟩ = .ite (decide (k < (↑l.length : Int))) (.need ((0 : Int) ≤ k ∧ k < (↑l.length : Int)) (.need (k.toNat < l.length) (.need (inK IntKind.i64 (k - (1 : Int))) (.need ((0 : Int) ≤ k - (1 : Int) ∧ k - (1 : Int) < (↑l.length : Int)) (.need ((k - (1 : Int)).toNat < l.length) (.need (noteF (l.getD k.toNat tNote.zero) = true ∧ noteF (l.getD (k - (1 : Int)).toNat tNote.zero) = true) (.ite (decide (cmpN (l.getD k.toNat tNote.zero) (l.getD (k - (1 : Int)).toNat tNote.zero) = (0 : Int))) (.need (((0 : Int) ≤ k ∧ k ≤ (↑l.length : Int)) ∧ (0 : Nat) < l.length) (.need (((1 : Int) ≤ (1 : Int) ∧ (1 : Int) ≤ (↑((↑l.length : Int).toNat - k.toNat) : Int)) ∧ k.toNat + ((↑l.length : Int).toNat - k.toNat) = l.length ∧ ((0 : Int) ≤ k ∧ k ≤ (↑k.toNat : Int) + (1 : Int) - (1 : Int)) ∧ l.length ≤ (1000 : Nat) ∧ AllOk goodN l) (.need (((0 : Int) ≤ (↑(cwGo k.toNat ((↑l.length : Int).toNat - k.toNat - Int.toNat (1 : Int)) (Int.toNat (1 : Int)) l k.toNat).snd : Int) ∧ (↑(cwGo k.toNat ((↑l.length : Int).toNat - k.toNat - Int.toNat (1 : Int)) (Int.toNat (1 : Int)) l k.toNat).snd : Int) ≤ (↑(cwGo k.toNat ((↑l.length : Int).toNat - k.toNat - Int.toNat (1 : Int)) (Int.toNat (1 : Int)) l k.toNat).fst.length : Int)) ∧ (0 : Nat) < (cwGo k.toNat ((↑l.length : Int).toNat - k.toNat - Int.toNat (1 : Int)) (Int.toNat (1 : Int)) l k.toNat).fst.length) (.need ((↑(cwGo k.toNat ((↑l.length : Int).toNat - k.toNat - Int.toNat (1 : Int)) (Int.toNat (1 : Int)) l k.toNat).snd : Int).toNat + ((↑(cwGo k.toNat ((↑l.length : Int).toNat - k.toNat - Int.toNat (1 : Int)) (Int.toNat (1 : Int)) l k.toNat).fst.length : Int).toNat - (↑(cwGo k.toNat ((↑l.length : Int).toNat - k.toNat - Int.toNat (1 : Int)) (Int.toNat (1 : Int)) l k.toNat).snd : Int).toNat) ≤ (cwGo k.toNat ((↑l.length : Int).toNat - k.toNat - Int.toNat (1 : Int)) (Int.toNat (1 : Int)) l k.toNat).fst.length ∧ (0 : Nat) < (cwGo k.toNat ((↑l.length : Int).toNat - k.toNat - Int.toNat (1 : Int)) (Int.toNat (1 : Int)) l k.toNat).fst.length) (.need (((0 : Int) ≤ (↑(cwGo k.toNat ((↑l.length : Int).toNat - k.toNat - Int.toNat (1 : Int)) (Int.toNat (1 : Int)) l k.toNat).snd : Int) ∧ (↑(cwGo k.toNat ((↑l.length : Int).toNat - k.toNat - Int.toNat (1 : Int)) (Int.toNat (1 : Int)) l k.toNat).snd : Int) ≤ (↑(clearL (cwGo k.toNat ((↑l.length : Int).toNat - k.toNat - Int.toNat (1 : Int)) (Int.toNat (1 : Int)) l k.toNat).fst (↑(cwGo k.toNat ((↑l.length : Int).toNat - k.toNat - Int.toNat (1 : Int)) (Int.toNat (1 : Int)) l k.toNat).snd : Int).toNat ((↑(cwGo k.toNat ((↑l.length : Int).toNat - k.toNat - Int.toNat (1 : Int)) (Int.toNat (1 : Int)) l k.toNat).fst.length : Int).toNat - (↑(cwGo k.toNat ((↑l.length : Int).toNat - k.toNat - Int.toNat (1 : Int)) (Int.toNat (1 : Int)) l k.toNat).snd : Int).toNat) (((0 : Int), (0 : Int)), ((0 : Int), (0 : Int)), (0 : Int), (0 : Int), (0 : Int))).length : Int)) ∧ (0 : Nat) < (clearL (cwGo k.toNat ((↑l.length : Int).toNat - k.toNat - Int.toNat (1 : Int)) (Int.toNat (1 : Int)) l k.toNat).fst (↑(cwGo k.toNat ((↑l.length : Int).toNat - k.toNat - Int.toNat (1 : Int)) (Int.toNat (1 : Int)) l k.toNat).snd : Int).toNat ((↑(cwGo k.toNat ((↑l.length : Int).toNat - k.toNat - Int.toNat (1 : Int)) (Int.toNat (1 : Int)) l k.toNat).fst.length : Int).toNat - (↑(cwGo k.toNat ((↑l.length : Int).toNat - k.toNat - Int.toNat (1 : Int)) (Int.toNat (1 : Int)) l k.toNat).snd : Int).toNat) (((0 : Int), (0 : Int)), ((0 : Int), (0 : Int)), (0 : Int), (0 : Int), (0 : Int))).length) (.leaf (.ret, ⟨[.row 700000, .fn 142], [], [.part 7 700000 (Int.toNat (0 : Int)) ((↑(cwGo k.toNat ((↑l.length : Int).toNat - k.toNat - Int.toNat (1 : Int)) (Int.toNat (1 : Int)) l k.toNat).snd : Int).toNat - Int.toNat (0 : Int)), .int .i64 ((↑(cwGo k.toNat ((↑l.length : Int).toNat - k.toNat - Int.toNat (1 : Int)) (Int.toNat (1 : Int)) l k.toNat).snd : Int))], [[.agg [.own (tFrac.pair (tFrac.pair (I64.pair (I64.pair I64)))) (clearL (cwGo k.toNat ((↑l.length : Int).toNat - k.toNat - Int.toNat (1 : Int)) (Int.toNat (1 : Int)) l k.toNat).fst (↑(cwGo k.toNat ((↑l.length : Int).toNat - k.toNat - Int.toNat (1 : Int)) (Int.toNat (1 : Int)) l k.toNat).snd : Int).toNat ((↑(cwGo k.toNat ((↑l.length : Int).toNat - k.toNat - Int.toNat (1 : Int)) (Int.toNat (1 : Int)) l k.toNat).fst.length : Int).toNat - (↑(cwGo k.toNat ((↑l.length : Int).toNat - k.toNat - Int.toNat (1 : Int)) (Int.toNat (1 : Int)) l k.toNat).snd : Int).toNat) (((0 : Int), (0 : Int)), ((0 : Int), (0 : Int)), (0 : Int), (0 : Int), (0 : Int)))]]]⟩))))))) (.need (inK IntKind.i64 (k + (1 : Int))) (.leaf (.normal, ⟨[.row 700000, .fn 142], [], [.nilS, .int .i64 (k + (1 : Int))], [[.agg [.own (tFrac.pair (tFrac.pair (I64.pair (I64.pair I64)))) (l)]]]⟩)))))))))) (.leaf ((.exit 0), ⟨[.row 700000, .fn 142], [], [.nilS, .int .i64 (k)], [[.agg [.own (tFrac.pair (tFrac.pair (I64.pair (I64.pair I64)))) (l)]]]⟩)) := by kernel_rfl
  rw [htree]
  clear htree
  replace hp : (1 ≤ k ∧ k ≤ (l.length : Int)) ∧ l.length ≤ 1000 ∧ AllOk goodN l ∧ ∀ j, 1 ≤ j → j < k.toNat → cmpN (l.getD j tNote.zero) (l.getD (j - 1) tNote.zero) ≠ 0 := hp
  obtain ⟨hk, hl, ho, hn⟩ := hp
  have hz : ((((0, 0), (0, 0), 0, 0, 0)) : tNote.den) = tNote.zero := rfl
  have t1 : Int.toNat 1 = 1 := rfl
  have t0 : Int.toNat 0 = 0 := rfl
  simp only [Tree.ok, tyd_inj, packAV, AV.same, AV.same.sameL, encV, encS, enc, inK, Nd.ok, List.headD_cons, List.cons_append, List.nil_append, List.append_nil, true_and, and_true, Bool.true_and, Bool.and_true, loop_next, weakBs_nil, weakBs_cons, weakB_self, weakB_row, weakB_int, weakL_nil, weakL_unk, weakL_guess, isRow_own, isRow_unk, weakL_int, weakL_bool, weakL_str, weakL_own, weakL_view, weakL_nilS, noRow_int, noRow_bool, own_inj, LTree.val, cond_true, cond_false, Prod.mk.injEq, List.cons.injEq, AV.int.injEq, AV.bool.injEq, AV.str.injEq, AV.agg.injEq, ann_compactN_0, weakL_part, AV.part.injEq, Int.toNat_natCast, t1, t0, hz, decide_eq_true_eq, decide_eq_false_iff_not]
  refine ⟨fun ha => ?_, fun ha => ?_⟩
  · have st := tw_step l k.toNat (by omega)
    have e1 : (k - 1).toNat = k.toNat - 1 := by omega
    have e2 : (k + 1).toNat = k.toNat + 1 := by omega
    have g1 := allOk_get ho tNote.zero (i := k.toNat) (by omega)
    have g2 := allOk_get ho tNote.zero (i := k.toNat - 1) (by omega)
    have hw := cw_spec k.toNat (l.length - k.toNat - 1) 1 l k.toNat (by omega) (Nat.le_refl _) (by omega)
    rw [st.1, st.2]
    clear st
    simp only [e1, e2]
    by_cases hc : cmpN (l.getD k.toNat tNote.zero) (l.getD (k.toNat - 1) tNote.zero) = 0
    · have hs := cutR_spec (l := l) (k := k.toNat) (by omega) (by omega) hc hn
      simp only [decide_eq_true hc, Bool.true_or, if_pos hc]
      unfold cutR at hs ⊢
      have hlc : (clearL (cwGo k.toNat (l.length - k.toNat - 1) 1 l k.toNat).1 (cwGo k.toNat (l.length - k.toNat - 1) 1 l k.toNat).2 (l.length - (cwGo k.toNat (l.length - k.toNat - 1) 1 l k.toNat).2) tNote.zero).length = l.length := hs.1
      generalize cwGo k.toNat (l.length - k.toNat - 1) 1 l k.toNat = W at *
      simp only [hw.1, hlc]
      simp only [Tree.ok, tyd_inj, packAV, AV.same, AV.same.sameL, encV, encS, enc, inK, Nd.ok, List.headD_cons, List.cons_append, List.nil_append, List.append_nil, true_and, and_true, Bool.true_and, Bool.and_true, loop_next, weakBs_nil, weakBs_cons, weakB_self, weakB_row, weakB_int, weakL_nil, weakL_unk, weakL_guess, isRow_own, isRow_unk, weakL_int, weakL_bool, weakL_str, weakL_own, weakL_view, weakL_nilS, noRow_int, noRow_bool, own_inj, LTree.val, cond_true, cond_false, Prod.mk.injEq, List.cons.injEq, AV.int.injEq, AV.bool.injEq, AV.str.injEq, AV.agg.injEq, ann_compactN_0, weakL_part, AV.part.injEq]
      repeat' first | apply And.intro | intro _
      all_goals first | omega | assumption | exact ho _ ‹_› | exact g1 | exact g2 | trivial | rfl | contradiction
    · have hn' : ∀ j, 1 ≤ j → j < k.toNat + 1 → cmpN (l.getD j tNote.zero) (l.getD (j - 1) tNote.zero) ≠ 0 := fun j g1 g2 => by
        rcases Nat.lt_or_ge j k.toNat with g | g
        · exact hn j g1 g
        · rw [show j = k.toNat by omega]; exact hc
      simp only [decide_eq_false hc, Bool.false_or, if_neg hc]
      repeat' first | apply And.intro | intro _
      all_goals first | omega | assumption | exact ho _ ‹_› | exact g1 | exact g2 | exact hn' _ ‹_› ‹_› | exact absurd ‹_› (hn' _ ‹_› ‹_›) | trivial | rfl | contradiction
  · rw [show l.length - k.toNat = 0 by omega]
    simp [Tree.ok, tyd_inj, packAV, AV.same, AV.same.sameL, encV, encS, enc, inK, Nd.ok, List.headD_cons, List.cons_append, List.nil_append, List.append_nil, true_and, and_true, Bool.true_and, Bool.and_true, loop_next, weakBs_nil, weakBs_cons, weakB_self, weakB_row, weakB_int, weakL_nil, weakL_unk, weakL_guess, isRow_own, isRow_unk, weakL_int, weakL_bool, weakL_str, weakL_own, weakL_view, weakL_nilS, noRow_int, noRow_bool, own_inj, LTree.val, cond_true, cond_false, Prod.mk.injEq, List.cons.injEq, AV.int.injEq, AV.bool.injEq, AV.str.injEq, AV.agg.injEq, twH]
theorem loops_compactN : ∀ c, Try.f140.body = some c → LoopsOk Try.prog (addL (firstId (loopAt Try.f140 1)) ann_compactN_1 (addL (firstId (loopAt Try.f140 0)) ann_compactN_0 noL)) Try.f140.ntmps c := loopsN fun i hi ann h => by
  have hn : loopN Try.f140 = 2 := by kernel_rfl
  rw [hn] at hi
  exact match i, hi, h with
    | 0, _, h => (Option.some.inj ((show (addL (firstId (loopAt Try.f140 1)) ann_compactN_1 (addL (firstId (loopAt Try.f140 0)) ann_compactN_0 noL)) (firstId (loopAt Try.f140 0)) = some ann_compactN_0 from by kernel_rfl).symm.trans h)) ▸ loop_compactN_0
    | 1, _, h => (Option.some.inj ((show (addL (firstId (loopAt Try.f140 1)) ann_compactN_1 (addL (firstId (loopAt Try.f140 0)) ann_compactN_0 noL)) (firstId (loopAt Try.f140 1)) = some ann_compactN_1 from by kernel_rfl).symm.trans h)) ▸ loop_compactN_1
set_option maxHeartbeats 1000000 in
theorem sat_compactN : Sat Try.prog 140 ct_compactN := by
  refine sat_typedM (C := C_Sq_5) (L := (addL (firstId (loopAt Try.f140 1)) ann_compactN_1 (addL (firstId (loopAt Try.f140 0)) ann_compactN_0 noL))) (wr := false) mixedOk Try.func140 C_Sq_5_ok (loops_compactN) (fun _ => ⟨rfl, by first | rfl | (simp [ownsOf, ownsOf.ownsL, enc, encV, encS])⟩) fun x hp => ?_
  obtain ⟨(l : List tNote.den), _, _⟩ := x
  replace hp : l.length ≤ 1000 ∧ AllOk goodN l := hp
  have htree : exFuncW Try.prog C_Sq_5 false (addL (firstId (loopAt Try.f140 1)) ann_compactN_1 (addL (firstId (loopAt Try.f140 0)) ann_compactN_0 noL)) Try.f140 false (rowed.rowedL BR (encA [.ov qNote, .f 142] (l, (), ()))) ⟨tNote, l⟩ = .ite (decide ((↑l.length : Int) < (2 : Int))) (.leaf ([.own (tFrac.pair (tFrac.pair (I64.pair (I64.pair I64)))) (l)], none)) (.need (((1 : Int) ≤ (1 : Int) ∧ (1 : Int) ≤ (↑l.length : Int)) ∧ l.length ≤ (1000 : Nat) ∧ AllOk goodN l ∧ ∀ (j : Nat), (1 : Nat) ≤ j → j < Int.toNat (1 : Int) → cmpN (l.getD j tNote.zero) (l.getD (j - (1 : Nat)) tNote.zero) ≠ (0 : Int)) (.ite (twH l (l.length - Int.toNat (1 : Int)) (Int.toNat (1 : Int))) (.need ((1 : Nat) ≤ (twR l (l.length - Int.toNat (1 : Int)) (Int.toNat (1 : Int))).snd ∧ (twR l (l.length - Int.toNat (1 : Int)) (Int.toNat (1 : Int))).snd ≤ (twR l (l.length - Int.toNat (1 : Int)) (Int.toNat (1 : Int))).fst.length) (.leaf ([.own (tFrac.pair (tFrac.pair (I64.pair (I64.pair I64)))) (List.take (twR l (l.length - Int.toNat (1 : Int)) (Int.toNat (1 : Int))).snd (twR l (l.length - Int.toNat (1 : Int)) (Int.toNat (1 : Int))).fst)], none))) (.leaf ([.own (tFrac.pair (tFrac.pair (I64.pair (I64.pair I64)))) (l)], none)))) := by kernel_rfl
  refine (congrArg (Tree.ok _) htree).mpr ?_
  clear htree
  have t1 : Int.toNat 1 = 1 := rfl
  obtain ⟨hl, ho⟩ := hp
  simp only [Tree.ok, tyd_inj, packAV, AV.same, AV.same.sameL, encV, encS, enc, inK, Nd.ok, List.headD_cons, List.cons_append, List.nil_append, List.append_nil, true_and, and_true, Bool.true_and, Bool.and_true, ownA, encA, encSh, encO, List.headD_cons, ownsOf.ownsL, ownsOf, t1, decide_eq_true_eq, decide_eq_false_iff_not]
  refine ⟨fun h => ?_, fun h => ?_⟩
  · rw [cptL_all l (fun j h1 h2 => by omega)]
    try trivial
  · have hs := tw_spec (l := l) (l.length - 1) 1 (by omega) (Nat.le_refl _) (fun j h1 h2 => by omega)
    refine ⟨⟨by omega, hl, ho, fun j h1 h2 => by omega⟩, fun h2 => ?_, fun h2 => ?_⟩
    · have := hs.1 h2
      refine ⟨⟨this.2.1, by omega⟩, ?_⟩
      rw [this.2.2.2]
      try trivial
    · rw [hs.2 h2]
      try trivial
def C_Sq_6 : FuncId → Option Ct := addC 140 ct_compactN C_Sq_5
theorem C_Sq_6_ok : COk Try.prog C_Sq_6 := addC_ok C_Sq_5_ok sat_compactN
def ann_iQuantize_0 : LAnn := { sameS := [3, 4, 24, 25], modS := [6, 26], sameH := [3, 4], modH := [], base := 900000, nilE := [], nilB := [], G := fun
  | ⟨[.ptr 3 0, .ptr 4 0, .view (.pair (.pair (.int .i64) (.int .i64)) (.pair (.pair (.int .i64) (.int .i64)) (.pair (.int .i64) (.pair (.int .i64) (.int .i64))))) xs, .int .i64 n], [.box [.int .i64 g1, .int .i64 g2], .box [.nilS]], [.own (.pair (.pair (.int .i64) (.int .i64)) (.pair (.pair (.int .i64) (.int .i64)) (.pair (.int .i64) (.pair (.int .i64) (.int .i64))))) out, .int .i64 i], []⟩ => some (.p (((0 ≤ i ∧ i ≤ n) ∧ n = (xs.length : Int) ∧ xs.length ≤ 60 ∧ (out.length : Int) = i) ∧ notesF xs = true ∧ okF g1 g2 = true ∧ 0 < g1), .leaf (.exit 0) [.own tNote (out ++ (xs.drop i.toNat).map (quN (g1, g2))), .unk] [])
  | _ => none }
def ct_iQuantize : Ct := ctOf [.s qNote, .s tFrac] (fun ((xs : List tNote.den), (g : tFrac.den), _) => .p ((xs.length : Int) ≤ 9223372036854775807)) (fun ((xs : List tNote.den), (g : tFrac.den), _) => .tup [.agg [.own tNote (quS xs g).1], .int .i64 (quS xs g).2])
set_option maxHeartbeats 1000000 in
theorem loop_iQuantize_0 : LoopSat Try.prog Try.f53.ntmps (loopAt Try.f53 0) ann_iQuantize_0 := by
  refine loopSat_of (C := C_Sq_6) (L := (addL (firstId (loopAt Try.f53 0)) ann_iQuantize_0 noL)) (wr := false) mixedOk C_Sq_6_ok (loopsIn0 (by kernel_rfl)) (fun d => match d.same, d.vals with | [_, _, _, .int _ n], [_, .int _ i] => (n - i).toNat | _, _ => 0) fun d p t hG hp => ?_
  simp only [ann_iQuantize_0] at hG
  split at hG
  rotate_left
  · simp at hG
  rename_i xs n g1 g2 out i
  simp only [Option.some.injEq, Prod.mk.injEq] at hG
  obtain ⟨rfl, rfl⟩ := hG
  have htree : exRound Try.prog C_Sq_6 false (addL (firstId (loopAt Try.f53 0)) ann_iQuantize_0 noL) Try.f53.ntmps ann_iQuantize_0 (loopAt Try.f53 0) ⟨[.ptr 3 0, .ptr 4 0, .view tNote xs, .int .i64 n], [.box [.int .i64 g1, .int .i64 g2], .box [.nilS]], [.own tNote out, .int .i64 i], []⟩ = .ite (decide (i < n)) (.need ((0 : Int) ≤ i ∧ i < (↑xs.length : Int)) (.need (beatF (getT tNote xs i).fst.fst (getT tNote xs i).fst.snd = true ∧ okF g1 g2 = true ∧ (0 : Int) < g1) (.need (out.length + [((nearX (getT tNote xs i).fst (g1, g2)).fst, (getT tNote xs i).snd)].length ≤ (16777216 : Nat)) (.need (inK IntKind.i64 (i + (1 : Int))) (.leaf (.normal, ⟨[.ptr 3 0, .ptr 4 0, .view (tFrac.pair (tFrac.pair (I64.pair (I64.pair I64)))) (xs), .int .i64 (n)], [.box [.int .i64 (g1), .int .i64 (g2)], .box [.nilS]], [.own (tFrac.pair (tFrac.pair (I64.pair (I64.pair I64)))) (out ++ [((nearX (getT tNote xs i).fst (g1, g2)).fst, (getT tNote xs i).snd)]), .int .i64 (i + (1 : Int))], []⟩)))))) (.leaf ((.exit 0), ⟨[.ptr 3 0, .ptr 4 0, .view (tFrac.pair (tFrac.pair (I64.pair (I64.pair I64)))) (xs), .int .i64 (n)], [.box [.int .i64 (g1), .int .i64 (g2)], .box [.nilS]], [.own (tFrac.pair (tFrac.pair (I64.pair (I64.pair I64)))) (out), .int .i64 (i)], []⟩)) := by kernel_rfl
  rw [htree]
  clear htree
  replace hp : ((0 ≤ i ∧ i ≤ n) ∧ n = (xs.length : Int) ∧ xs.length ≤ 60 ∧ (out.length : Int) = i) ∧ notesF xs = true ∧ okF g1 g2 = true ∧ 0 < g1 := hp
  obtain ⟨⟨hi, hn, hl, ho⟩, hx, hg, h0⟩ := hp
  have hm : ∀ k : Nat, k < xs.length → beatF (xs.getD k tNote.zero).1.1 (xs.getD k tNote.zero).1.2 = true := fun k hk => by
    have := notesF_get hx k tNote.zero hk
    simp only [noteF, Bool.and_eq_true] at this
    exact this.1
  have hz : ∀ (k : Int), getT tNote xs k = xs.getD k.toNat tNote.zero := fun _ => rfl
  simp only [Tree.ok, tyd_inj, packAV, AV.same, AV.same.sameL, encV, encS, enc, inK, Nd.ok, List.headD_cons, List.cons_append, List.nil_append, List.append_nil, true_and, and_true, Bool.true_and, Bool.and_true, loop_next, weakBs_nil, weakBs_cons, weakB_self, weakB_row, weakB_int, weakL_nil, weakL_unk, weakL_guess, isRow_own, isRow_unk, weakL_int, weakL_bool, weakL_str, weakL_own, weakL_view, weakL_nilS, noRow_int, noRow_bool, own_inj, LTree.val, cond_true, cond_false, Prod.mk.injEq, List.cons.injEq, AV.int.injEq, AV.bool.injEq, AV.str.injEq, AV.agg.injEq, ann_iQuantize_0, decide_eq_true_eq, decide_eq_false_iff_not, hz]
  refine ⟨fun ha => ?_, fun ha => ?_⟩
  · have hb := hm i.toNat (by omega)
    have hs : (xs.drop i.toNat).map (quN (g1, g2)) = quN (g1, g2) (xs.getD i.toNat tNote.zero) :: (xs.drop (i.toNat + 1)).map (quN (g1, g2)) := map_stepQ _ _ _ _ (by omega)
    have e2 : (i + 1).toNat = i.toNat + 1 := by omega
    rw [hs]
    simp only [e2, List.length_append, List.length_cons, List.length_nil, List.append_assoc, List.cons_append, List.nil_append]
    repeat' first | apply And.intro | intro _
    all_goals first | omega | assumption | trivial | rfl
  · rw [List.drop_eq_nil_of_le (by omega)]
    simp [Tree.ok, tyd_inj, packAV, AV.same, AV.same.sameL, encV, encS, enc, inK, Nd.ok, List.headD_cons, List.cons_append, List.nil_append, List.append_nil, true_and, and_true, Bool.true_and, Bool.and_true, loop_next, weakBs_nil, weakBs_cons, weakB_self, weakB_row, weakB_int, weakL_nil, weakL_unk, weakL_guess, isRow_own, isRow_unk, weakL_int, weakL_bool, weakL_str, weakL_own, weakL_view, weakL_nilS, noRow_int, noRow_bool, own_inj, LTree.val, cond_true, cond_false, Prod.mk.injEq, List.cons.injEq, AV.int.injEq, AV.bool.injEq, AV.str.injEq, AV.agg.injEq]
theorem loops_iQuantize : ∀ c, Try.f53.body = some c → LoopsOk Try.prog (addL (firstId (loopAt Try.f53 0)) ann_iQuantize_0 noL) Try.f53.ntmps c := loopsN fun i hi ann h => by
  have hn : loopN Try.f53 = 1 := by kernel_rfl
  rw [hn] at hi
  exact match i, hi, h with
    | 0, _, h => (Option.some.inj ((show (addL (firstId (loopAt Try.f53 0)) ann_iQuantize_0 noL) (firstId (loopAt Try.f53 0)) = some ann_iQuantize_0 from by kernel_rfl).symm.trans h)) ▸ loop_iQuantize_0
set_option maxHeartbeats 1000000 in
theorem sat_iQuantize : Sat Try.prog 53 ct_iQuantize := by
  refine sat_typed (C := C_Sq_6) (L := (addL (firstId (loopAt Try.f53 0)) ann_iQuantize_0 noL)) (wr := false) mixedOk Try.func53 C_Sq_6_ok (loops_iQuantize) (fun _ => by first | rfl | (simp [ownsOf, ownsOf.ownsL, enc, encV, encS])) fun x hp => ?_
  obtain ⟨(xs : List tNote.den), (g : tFrac.den), _⟩ := x
  replace hp : (xs.length : Int) ≤ 9223372036854775807 := hp
  have htree : exFunc Try.prog C_Sq_6 false (addL (firstId (loopAt Try.f53 0)) ann_iQuantize_0 noL) Try.f53 (encA [.s qNote, .s tFrac] (xs, g, ())) = .need ((↑xs.length : Int) ≤ (9223372036854775807 : Int)) (.ite (!scoreF xs) (.leaf [.agg [.nilS], .int .i64 ((1 : Int))]) (.ite (!okF g.fst g.snd) (.leaf [.agg [.nilS], .int .i64 ((1 : Int))]) (.ite (decide (g.fst ≤ (0 : Int))) (.leaf [.agg [.nilS], .int .i64 ((2 : Int))]) (.need ((((0 : Int) ≤ (0 : Int) ∧ (0 : Int) ≤ (↑xs.length : Int)) ∧ (↑xs.length : Int) = (↑xs.length : Int) ∧ xs.length ≤ (60 : Nat) ∧ (↑(0 : Nat) : Int) = (0 : Int)) ∧ notesF xs = true ∧ okF g.fst g.snd = true ∧ (0 : Int) < g.fst) (.need ((↑([] ++ List.map (quN g) (List.drop (Int.toNat (0 : Int)) xs)).length : Int) ≤ (9223372036854775807 : Int)) (.ite (!notesF ([] ++ List.map (quN g) (List.drop (Int.toNat (0 : Int)) xs))) (.leaf [.agg [.nilS], .int .i64 ((2 : Int))]) (.need (([] ++ List.map (quN g) (List.drop (Int.toNat (0 : Int)) xs)).length ≤ (1000 : Nat) ∧ AllOk goodN ([] ++ List.map (quN g) (List.drop (Int.toNat (0 : Int)) xs))) (.need ((srt ltN ([] ++ List.map (quN g) (List.drop (Int.toNat (0 : Int)) xs))).length ≤ (1000 : Nat) ∧ AllOk goodN (srt ltN ([] ++ List.map (quN g) (List.drop (Int.toNat (0 : Int)) xs)))) (.leaf [.agg [.own (tFrac.pair (tFrac.pair (I64.pair (I64.pair I64)))) (cptL (srt ltN ([] ++ List.map (quN g) (List.drop (Int.toNat (0 : Int)) xs))))], .int .i64 ((0 : Int))]))))))))) := by kernel_rfl
  refine (congrArg (Tree.ok _) htree).mpr ?_
  clear htree
  simp only [Tree.ok, tyd_inj, packAV, AV.same, AV.same.sameL, encV, encS, enc, inK, Nd.ok, List.headD_cons, List.cons_append, List.nil_append, List.append_nil, true_and, and_true, Bool.true_and, Bool.and_true, quS, Int.toNat_zero, List.drop_zero, List.nil_append, List.length_map, srt_len, decide_eq_true_eq, decide_eq_false_iff_not]
  cases h1 : scoreF xs
  · simp
    try exact hp
  cases h2 : okF g.1 g.2
  · simp
    try exact hp
  have hb := score_notes h1
  simp only [Bool.not_true, Bool.false_eq_true, false_implies, true_implies, and_self, if_true]
  by_cases h3 : (g.1 : Int) ≤ 0
  · simp [h3]
    try exact hp
  simp only [h3, false_implies, true_implies, not_false_eq_true, if_false]
  have hk := fun h => (notesOk (xs := xs.map (quN g)) h)
  have hgl : (xs.map (quN g)).length = xs.length := by simp
  have eta : ((g.1, g.2) : Fr) = g := rfl
  try simp only [eta]
  generalize xs.map (quN g) = ys at *
  cases h4 : notesF ys
  · simp
    repeat' first | apply And.intro | intro _
    all_goals first | omega | assumption | exact hb.2 | exact Int.not_le.1 h3 | trivial
  · have hk := hk h4
    simp only [Bool.not_true, Bool.false_eq_true, false_implies, true_implies, if_true]
    repeat' first | apply And.intro | intro _
    all_goals first | omega | assumption | exact hk _ ‹_› | exact hk.srt _ ‹_› | exact hb.2 | exact Int.not_le.1 h3 | trivial | rfl | contradiction
def C_Sq_7 : FuncId → Option Ct := addC 53 ct_iQuantize C_Sq_6
theorem C_Sq_7_ok : COk Try.prog C_Sq_7 := addC_ok C_Sq_6_ok sat_iQuantize
def ann_sQuantize_0 : LAnn := { sameS := [2, 3, 4], modS := [5, 6, 7], sameH := [2, 3], modH := [4], base := 900000, nilE := [], nilB := [], G := fun
  | ⟨[.ptr 2 0, .ptr 3 0, .ptr 4 0], [.box [.view (.pair (.pair (.int .i64) (.int .i64)) (.pair (.pair (.int .i64) (.int .i64)) (.pair (.int .i64) (.pair (.int .i64) (.int .i64))))) xs], .box [.int .i64 g1, .int .i64 g2]], [.int .i64 c, .own (.pair (.pair (.int .i64) (.int .i64)) (.pair (.pair (.int .i64) (.int .i64)) (.pair (.int .i64) (.pair (.int .i64) (.int .i64))))) out, .int .i64 i], [[.nilS]]⟩ => some (.p (((0 ≤ i ∧ i ≤ (xs.length : Int)) ∧ xs.length ≤ 60 ∧ (out.length : Int) ≤ i) ∧ notesF xs = true ∧ (okF g1 g2 = true ∧ 0 < g1) ∧ AllOk goodN out), .ite (notesF ((xs.drop i.toNat).map (quN (g1, g2)))) (.leaf (.exit 0) [.int .i64 c, .own tNote (((xs.drop i.toNat).map (quN (g1, g2))).foldl addQ out), .unk] [[.nilS]]) (.leaf .ret [.int .i64 2, .guess True, .unk] [[.nilS]]))
  | _ => none }
def ann_sQuantize_1 : LAnn := { sameS := [2, 3, 4, 5, 6, 7, 8], modS := [11, 12], sameH := [2, 3, 4, 8, 900001], modH := [], base := 900000, nilE := [], nilB := [], G := fun
  | ⟨[.ptr 2 0, .ptr 3 0, .ptr 4 0, .int .i64 c, .row 900001, .int .i64 i, .ptr 8 0], [.box [.view (.pair (.pair (.int .i64) (.int .i64)) (.pair (.pair (.int .i64) (.int .i64)) (.pair (.int .i64) (.pair (.int .i64) (.int .i64))))) xs], .box [.int .i64 g1, .int .i64 g2], .box [.nilS], .box [.int .i64 u, .int .i64 v, .int .i64 u2, .int .i64 v2, .int .i64 key, .int .i64 vel, .int .i64 ch], .row (.pair (.pair (.int .i64) (.int .i64)) (.pair (.pair (.int .i64) (.int .i64)) (.pair (.int .i64) (.pair (.int .i64) (.int .i64))))) out], [.bool b, .int .i64 k], []⟩ => some (.p ((0 ≤ k ∧ k ≤ (out.length : Int)) ∧ out.length ≤ 100 ∧ AllOk goodN out ∧ noteF ((u, v), (u2, v2), key, vel, ch) = true), .leaf (.exit 2) [.bool (b || (out.drop k.toNat).any fun x => decide (cmpN x ((u, v), (u2, v2), key, vel, ch) = 0)), .unk] [])
  | _ => none }
def ct_sQuantize : Ct := ctOf [.s qNote, .s tFrac] (fun ((xs : List tNote.den), (g : tFrac.den), _) => .p ((xs.length : Int) ≤ 9223372036854775807)) (fun ((xs : List tNote.den), (g : tFrac.den), _) => .tup [.agg [.own tNote (quS xs g).1], .int .i64 (quS xs g).2])
set_option maxHeartbeats 1000000 in
theorem loop_sQuantize_1 : LoopSat Try.prog Try.f52.ntmps (loopAt Try.f52 1) ann_sQuantize_1 := by
  refine loopSat_of (C := C_Sq_7) (L := (addL (firstId (loopAt Try.f52 1)) ann_sQuantize_1 (addL (firstId (loopAt Try.f52 0)) ann_sQuantize_0 noL))) (wr := false) mixedOk C_Sq_7_ok (loopsIn0 (by kernel_rfl)) (fun d => match d.blk, d.vals with | [_, _, _, _, .row _ out], [_, .int _ k] => ((out.length : Int) - k).toNat | _, _ => 0) fun d p t hG hp => ?_
  simp only [ann_sQuantize_1] at hG
  split at hG
  rotate_left
  · simp at hG
  rename_i c i xs g1 g2 u v u2 v2 key vel ch out b k
  simp only [Option.some.injEq, Prod.mk.injEq] at hG
  obtain ⟨rfl, rfl⟩ := hG
  have htree : exRound Try.prog C_Sq_7 false (addL (firstId (loopAt Try.f52 1)) ann_sQuantize_1 (addL (firstId (loopAt Try.f52 0)) ann_sQuantize_0 noL)) Try.f52.ntmps ann_sQuantize_1 (loopAt Try.f52 1) ⟨[.ptr 2 0, .ptr 3 0, .ptr 4 0, .int .i64 c, .row 900001, .int .i64 i, .ptr 8 0], [.box [.view tNote xs], .box [.int .i64 g1, .int .i64 g2], .box [.nilS], .box [.int .i64 u, .int .i64 v, .int .i64 u2, .int .i64 v2, .int .i64 key, .int .i64 vel, .int .i64 ch], .row tNote out], [.bool b, .int .i64 k], []⟩ = .ite (decide (k < (↑out.length : Int))) (.ite (b) (.need (inK IntKind.i64 (k + (1 : Int))) (.leaf (.normal, ⟨[.ptr 2 0, .ptr 3 0, .ptr 4 0, .int .i64 (c), .row 900001, .int .i64 (i), .ptr 8 0], [.box [.view (tFrac.pair (tFrac.pair (I64.pair (I64.pair I64)))) (xs)], .box [.int .i64 (g1), .int .i64 (g2)], .box [.nilS], .box [.int .i64 (u), .int .i64 (v), .int .i64 (u2), .int .i64 (v2), .int .i64 (key), .int .i64 (vel), .int .i64 (ch)], .row (tFrac.pair (tFrac.pair (I64.pair (I64.pair I64)))) (out)], [.bool (true), .int .i64 (k + (1 : Int))], []⟩))) (.need ((0 : Int) ≤ k ∧ k < (↑out.length : Int)) (.need (k.toNat < out.length ∧ noteF (out.getD k.toNat tNote.zero) = true ∧ noteF ((u, v), (u2, v2), key, vel, ch) = true) (.need (inK IntKind.i64 (k + (1 : Int))) (.leaf (.normal, ⟨[.ptr 2 0, .ptr 3 0, .ptr 4 0, .int .i64 (c), .row 900001, .int .i64 (i), .ptr 8 0], [.box [.view (tFrac.pair (tFrac.pair (I64.pair (I64.pair I64)))) (xs)], .box [.int .i64 (g1), .int .i64 (g2)], .box [.nilS], .box [.int .i64 (u), .int .i64 (v), .int .i64 (u2), .int .i64 (v2), .int .i64 (key), .int .i64 (vel), .int .i64 (ch)], .row (tFrac.pair (tFrac.pair (I64.pair (I64.pair I64)))) (out)], [.bool (cmpN (out.getD k.toNat tNote.zero) ((u, v), (u2, v2), key, vel, ch) == (0 : Int)), .int .i64 (k + (1 : Int))], []⟩)))))) (.leaf ((.exit 2), ⟨[.ptr 2 0, .ptr 3 0, .ptr 4 0, .int .i64 (c), .row 900001, .int .i64 (i), .ptr 8 0], [.box [.view (tFrac.pair (tFrac.pair (I64.pair (I64.pair I64)))) (xs)], .box [.int .i64 (g1), .int .i64 (g2)], .box [.nilS], .box [.int .i64 (u), .int .i64 (v), .int .i64 (u2), .int .i64 (v2), .int .i64 (key), .int .i64 (vel), .int .i64 (ch)], .row (tFrac.pair (tFrac.pair (I64.pair (I64.pair I64)))) (out)], [.bool (b), .int .i64 (k)], []⟩)) := by kernel_rfl
  rw [htree]
  clear htree
  replace hp : (0 ≤ k ∧ k ≤ (out.length : Int)) ∧ out.length ≤ 100 ∧ AllOk goodN out ∧ noteF ((u, v), (u2, v2), key, vel, ch) = true := hp
  obtain ⟨hi, hl, hn, hx⟩ := hp
  have hg : ∀ k : Nat, k < out.length → noteF (out.getD k tNote.zero) = true := fun k hk => allOk_get hn tNote.zero hk
  simp only [Tree.ok, tyd_inj, packAV, AV.same, AV.same.sameL, encV, encS, enc, inK, Nd.ok, List.headD_cons, List.cons_append, List.nil_append, List.append_nil, true_and, and_true, Bool.true_and, Bool.and_true, loop_next, weakBs_nil, weakBs_cons, weakB_self, weakB_row, weakB_int, weakL_nil, weakL_unk, weakL_guess, isRow_own, isRow_unk, weakL_int, weakL_bool, weakL_str, weakL_own, weakL_view, weakL_nilS, noRow_int, noRow_bool, own_inj, LTree.val, cond_true, cond_false, Prod.mk.injEq, List.cons.injEq, AV.int.injEq, AV.bool.injEq, AV.str.injEq, AV.agg.injEq, ann_sQuantize_1, decide_eq_true_eq, decide_eq_false_iff_not]
  generalize ((((u, v), (u2, v2), key, vel, ch) : tNote.den)) = n at *
  refine ⟨fun ha => ?_, fun ha => ?_⟩
  · have hs : (out.drop k.toNat).any (fun x => decide (cmpN x n = 0)) = (decide (cmpN (out.getD k.toNat tNote.zero) n = 0) || (out.drop (k + 1).toNat).any (fun x => decide (cmpN x n = 0))) := by
      rw [show (k + 1).toNat = k.toNat + 1 by omega, List.drop_eq_getElem_cons (by omega : k.toNat < out.length), List.any_cons, getD_lt _ _ _ (by omega)]
    rw [hs]
    have hgi := hg k.toNat (by omega)
    generalize (out.drop (k + 1).toNat).any (fun x => decide (cmpN x n = 0)) = q at *
    refine ⟨fun hb => ⟨by omega, by omega, ⟨by omega, hl, hn, hx⟩, by rw [hb]; rfl⟩, fun hb => ⟨by omega, ⟨by omega, hgi, hx⟩, by omega, by omega, ⟨by omega, hl, hn, hx⟩, ?_⟩⟩
    rw [hb, Bool.false_or]
    try trivial
  · rw [List.drop_eq_nil_of_le (by omega)]
    simp [Tree.ok, tyd_inj, packAV, AV.same, AV.same.sameL, encV, encS, enc, inK, Nd.ok, List.headD_cons, List.cons_append, List.nil_append, List.append_nil, true_and, and_true, Bool.true_and, Bool.and_true, loop_next, weakBs_nil, weakBs_cons, weakB_self, weakB_row, weakB_int, weakL_nil, weakL_unk, weakL_guess, isRow_own, isRow_unk, weakL_int, weakL_bool, weakL_str, weakL_own, weakL_view, weakL_nilS, noRow_int, noRow_bool, own_inj, LTree.val, cond_true, cond_false, Prod.mk.injEq, List.cons.injEq, AV.int.injEq, AV.bool.injEq, AV.str.injEq, AV.agg.injEq]
set_option maxHeartbeats 1000000 in
theorem loop_sQuantize_0 : LoopSat Try.prog Try.f52.ntmps (loopAt Try.f52 0) ann_sQuantize_0 := by
  refine loopSat_of (C := C_Sq_7) (L := (addL (firstId (loopAt Try.f52 1)) ann_sQuantize_1 (addL (firstId (loopAt Try.f52 0)) ann_sQuantize_0 noL))) (wr := false) mixedOk C_Sq_7_ok (loopsIn1 (b := loopAt Try.f52 1) (by kernel_rfl) (fun ann h => (Option.some.inj ((show (addL (firstId (loopAt Try.f52 1)) ann_sQuantize_1 (addL (firstId (loopAt Try.f52 0)) ann_sQuantize_0 noL)) (firstId (loopAt Try.f52 1)) = some ann_sQuantize_1 from by kernel_rfl).symm.trans h)) ▸ loop_sQuantize_1)) (fun d => match d.blk, d.vals with | [.box [.view _ xs], _], [_, _, .int _ i] => ((xs.length : Int) - i).toNat | _, _ => 0) fun d p t hG hp => ?_
  simp only [ann_sQuantize_0] at hG
  split at hG
  rotate_left
  · simp at hG
  rename_i xs g1 g2 c out i
  simp only [Option.some.injEq, Prod.mk.injEq] at hG
  obtain ⟨rfl, rfl⟩ := hG
  have htree : exRound Try.prog C_Sq_7 false (addL (firstId (loopAt Try.f52 1)) ann_sQuantize_1 (addL (firstId (loopAt Try.f52 0)) ann_sQuantize_0 noL)) Try.f52.ntmps ann_sQuantize_0 (loopAt Try.f52 0) ⟨[.ptr 2 0, .ptr 3 0, .ptr 4 0], [.box [.view tNote xs], .box [.int .i64 g1, .int .i64 g2]], [.int .i64 c, .own tNote out, .int .i64 i], [[.nilS]]⟩ = .ite (decide (i < (↑xs.length : Int))) (.need ((0 : Int) ≤ i ∧ i < (↑xs.length : Int)) (.need (beatF (getT tNote xs i).fst.fst (getT tNote xs i).fst.snd = true ∧ okF g1 g2 = true ∧ (0 : Int) < g1) (.ite (!decide ((nearX (getT tNote xs i).fst (g1, g2)).snd = (0 : Int))) (.leaf (.ret, ⟨[.ptr 2 0, .ptr 3 0, .ptr 4 0], [.box [.view (tFrac.pair (tFrac.pair (I64.pair (I64.pair I64)))) (xs)], .box [.int .i64 (g1), .int .i64 (g2)]], [.int .i64 ((2 : Int)), .own (tFrac.pair (tFrac.pair (I64.pair (I64.pair I64)))) (out), .int .i64 (i)], [[.nilS]]⟩)) (.ite (!noteF ((nearX (getT tNote xs i).fst (g1, g2)).fst, (getT tNote xs i).snd)) (.leaf (.ret, ⟨[.ptr 2 0, .ptr 3 0, .ptr 4 0], [.box [.view (tFrac.pair (tFrac.pair (I64.pair (I64.pair I64)))) (xs)], .box [.int .i64 (g1), .int .i64 (g2)]], [.int .i64 ((2 : Int)), .own (tFrac.pair (tFrac.pair (I64.pair (I64.pair I64)))) (out), .int .i64 (i)], [[.nilS]]⟩)) (.need (((0 : Int) ≤ (0 : Int) ∧ (0 : Int) ≤ (↑out.length : Int)) ∧ out.length ≤ (100 : Nat) ∧ AllOk goodN out ∧ noteF ((nearX (getT tNote xs i).fst (g1, g2)).fst, (getT tNote xs i).snd) = true) (.ite (!(false || (List.drop (Int.toNat (0 : Int)) out).any fun (x : (((Ty.int IntKind.i64).pair (Ty.int IntKind.i64)).pair (((Ty.int IntKind.i64).pair (Ty.int IntKind.i64)).pair ((Ty.int IntKind.i64).pair ((Ty.int IntKind.i64).pair (Ty.int IntKind.i64))))).den) => decide (cmpN x ((nearX (getT tNote xs i).fst (g1, g2)).fst, (getT tNote xs i).snd) = (0 : Int)))) (.need (out.length + [((nearX (getT tNote xs i).fst (g1, g2)).fst, (getT tNote xs i).snd)].length ≤ (16777216 : Nat)) (.need (inK IntKind.i64 (i + (1 : Int))) (.leaf (.normal, ⟨[.ptr 2 0, .ptr 3 0, .ptr 4 0], [.box [.view (tFrac.pair (tFrac.pair (I64.pair (I64.pair I64)))) (xs)], .box [.int .i64 (g1), .int .i64 (g2)]], [.int .i64 (c), .own (tFrac.pair (tFrac.pair (I64.pair (I64.pair I64)))) (out ++ [((nearX (getT tNote xs i).fst (g1, g2)).fst, (getT tNote xs i).snd)]), .int .i64 (i + (1 : Int))], [[.nilS]]⟩)))) (.need (inK IntKind.i64 (i + (1 : Int))) (.leaf (.normal, ⟨[.ptr 2 0, .ptr 3 0, .ptr 4 0], [.box [.view (tFrac.pair (tFrac.pair (I64.pair (I64.pair I64)))) (xs)], .box [.int .i64 (g1), .int .i64 (g2)]], [.int .i64 (c), .own (tFrac.pair (tFrac.pair (I64.pair (I64.pair I64)))) (out), .int .i64 (i + (1 : Int))], [[.nilS]]⟩))))))))) (.leaf ((.exit 0), ⟨[.ptr 2 0, .ptr 3 0, .ptr 4 0], [.box [.view (tFrac.pair (tFrac.pair (I64.pair (I64.pair I64)))) (xs)], .box [.int .i64 (g1), .int .i64 (g2)]], [.int .i64 (c), .own (tFrac.pair (tFrac.pair (I64.pair (I64.pair I64)))) (out), .int .i64 (i)], [[.nilS]]⟩)) := by kernel_rfl
  rw [htree]
  clear htree
  replace hp : ((0 ≤ i ∧ i ≤ (xs.length : Int)) ∧ xs.length ≤ 60 ∧ (out.length : Int) ≤ i) ∧ notesF xs = true ∧ (okF g1 g2 = true ∧ 0 < g1) ∧ AllOk goodN out := hp
  obtain ⟨⟨hi, hl, hlo⟩, hx, ⟨hg, h0⟩, ho⟩ := hp
  have hm : ∀ k : Nat, k < xs.length → beatF (xs.getD k tNote.zero).1.1 (xs.getD k tNote.zero).1.2 = true := fun k hk => by
    have := notesF_get hx k tNote.zero hk
    simp only [noteF, Bool.and_eq_true] at this
    exact this.1
  have hz : ∀ (k : Int), getT tNote xs k = xs.getD k.toNat tNote.zero := fun _ => rfl
  have t0 : Int.toNat 0 = 0 := rfl
  simp only [Tree.ok, tyd_inj, packAV, AV.same, AV.same.sameL, encV, encS, enc, inK, Nd.ok, List.headD_cons, List.cons_append, List.nil_append, List.append_nil, true_and, and_true, Bool.true_and, Bool.and_true, loop_next, weakBs_nil, weakBs_cons, weakB_self, weakB_row, weakB_int, weakL_nil, weakL_unk, weakL_guess, isRow_own, isRow_unk, weakL_int, weakL_bool, weakL_str, weakL_own, weakL_view, weakL_nilS, noRow_int, noRow_bool, own_inj, LTree.val, cond_true, cond_false, Prod.mk.injEq, List.cons.injEq, AV.int.injEq, AV.bool.injEq, AV.str.injEq, AV.agg.injEq, ann_sQuantize_0, decide_eq_true_eq, decide_eq_false_iff_not, hz, t0, List.drop_zero, Bool.false_or, Bool.not_eq_true', Bool.not_eq_false']
  refine ⟨fun ha => ?_, fun ha => ?_⟩
  · have hb := hm i.toNat (by omega)
    have hs : (xs.drop i.toNat).map (quN (g1, g2)) = quN (g1, g2) (xs.getD i.toNat tNote.zero) :: (xs.drop (i.toNat + 1)).map (quN (g1, g2)) := map_stepQ _ _ _ _ (by omega)
    have e2 : (i + 1).toNat = i.toNat + 1 := by omega
    have eN : ((nearX (xs.getD i.toNat tNote.zero).1 (g1, g2)).1, (xs.getD i.toNat tNote.zero).2) = quN (g1, g2) (xs.getD i.toNat tNote.zero) := rfl
    have hv := near_val (x := xs.getD i.toNat tNote.zero) (g := (g1, g2))
    rw [hs]
    simp only [e2, eN]
    generalize quN (g1, g2) (xs.getD i.toNat tNote.zero) = y at *
    generalize (xs.drop (i.toNat + 1)).map (quN (g1, g2)) = ys at *
    have hcons : notesF (y :: ys) = (noteF y && notesF ys) := rfl
    have hq := fun h => addQ_ok (l := out) (n := y) ho h
    have eA : addQ out y = if out.any (fun x => decide (cmpN x y = 0)) = true then out else out ++ [y] := rfl
    rw [hcons, List.foldl_cons]
    refine ⟨by omega, ⟨hb, hg, h0⟩, fun h1 => ?_, fun h1 => ?_⟩
    · have : noteF y = false := by
        cases h2 : noteF y
        · rfl
        · exact absurd (hv h2) h1
      rw [this]
      simp [Tree.ok, tyd_inj, packAV, AV.same, AV.same.sameL, encV, encS, enc, inK, Nd.ok, List.headD_cons, List.cons_append, List.nil_append, List.append_nil, true_and, and_true, Bool.true_and, Bool.and_true, loop_next, weakBs_nil, weakBs_cons, weakB_self, weakB_row, weakB_int, weakL_nil, weakL_unk, weakL_guess, isRow_own, isRow_unk, weakL_int, weakL_bool, weakL_str, weakL_own, weakL_view, weakL_nilS, noRow_int, noRow_bool, own_inj, LTree.val, cond_true, cond_false, Prod.mk.injEq, List.cons.injEq, AV.int.injEq, AV.bool.injEq, AV.str.injEq, AV.agg.injEq]
    · refine ⟨fun h2 => ?_, fun h2 => ?_⟩
      · rw [h2]
        simp [Tree.ok, tyd_inj, packAV, AV.same, AV.same.sameL, encV, encS, enc, inK, Nd.ok, List.headD_cons, List.cons_append, List.nil_append, List.append_nil, true_and, and_true, Bool.true_and, Bool.and_true, loop_next, weakBs_nil, weakBs_cons, weakB_self, weakB_row, weakB_int, weakL_nil, weakL_unk, weakL_guess, isRow_own, isRow_unk, weakL_int, weakL_bool, weakL_str, weakL_own, weakL_view, weakL_nilS, noRow_int, noRow_bool, own_inj, LTree.val, cond_true, cond_false, Prod.mk.injEq, List.cons.injEq, AV.int.injEq, AV.bool.injEq, AV.str.injEq, AV.agg.injEq]
      · rw [h2, Bool.true_and]
        have hq := hq h2
        rw [eA] at hq ⊢
        refine ⟨⟨by omega, by omega, ho, by first | exact h2 | rfl⟩, ?_⟩
        cases hc : out.any (fun x => decide (cmpN x y = 0))
        · rw [hc] at hq
          simp only [Bool.false_eq_true, if_false] at hq ⊢
          repeat' first | apply And.intro | intro _
          all_goals first | omega | assumption | exact hq.1 _ ‹_› | exact ho _ ‹_› | trivial | rfl | contradiction | (simp; omega)
        · rw [hc] at hq
          simp only [if_true] at hq ⊢
          repeat' first | apply And.intro | intro _
          all_goals first | omega | assumption | exact hq.1 _ ‹_› | exact ho _ ‹_› | trivial | rfl | contradiction | (simp; omega)
  · rw [List.drop_eq_nil_of_le (by omega)]
    simp [Tree.ok, tyd_inj, packAV, AV.same, AV.same.sameL, encV, encS, enc, inK, Nd.ok, List.headD_cons, List.cons_append, List.nil_append, List.append_nil, true_and, and_true, Bool.true_and, Bool.and_true, loop_next, weakBs_nil, weakBs_cons, weakB_self, weakB_row, weakB_int, weakL_nil, weakL_unk, weakL_guess, isRow_own, isRow_unk, weakL_int, weakL_bool, weakL_str, weakL_own, weakL_view, weakL_nilS, noRow_int, noRow_bool, own_inj, LTree.val, cond_true, cond_false, Prod.mk.injEq, List.cons.injEq, AV.int.injEq, AV.bool.injEq, AV.str.injEq, AV.agg.injEq, notesF]
theorem loops_sQuantize : ∀ c, Try.f52.body = some c → LoopsOk Try.prog (addL (firstId (loopAt Try.f52 1)) ann_sQuantize_1 (addL (firstId (loopAt Try.f52 0)) ann_sQuantize_0 noL)) Try.f52.ntmps c := loopsN fun i hi ann h => by
  have hn : loopN Try.f52 = 2 := by kernel_rfl
  rw [hn] at hi
  exact match i, hi, h with
    | 0, _, h => (Option.some.inj ((show (addL (firstId (loopAt Try.f52 1)) ann_sQuantize_1 (addL (firstId (loopAt Try.f52 0)) ann_sQuantize_0 noL)) (firstId (loopAt Try.f52 0)) = some ann_sQuantize_0 from by kernel_rfl).symm.trans h)) ▸ loop_sQuantize_0
    | 1, _, h => (Option.some.inj ((show (addL (firstId (loopAt Try.f52 1)) ann_sQuantize_1 (addL (firstId (loopAt Try.f52 0)) ann_sQuantize_0 noL)) (firstId (loopAt Try.f52 1)) = some ann_sQuantize_1 from by kernel_rfl).symm.trans h)) ▸ loop_sQuantize_1
set_option maxHeartbeats 1000000 in
theorem sat_sQuantize : Sat Try.prog 52 ct_sQuantize := by
  refine sat_typed (C := C_Sq_7) (L := (addL (firstId (loopAt Try.f52 1)) ann_sQuantize_1 (addL (firstId (loopAt Try.f52 0)) ann_sQuantize_0 noL))) (wr := false) mixedOk Try.func52 C_Sq_7_ok (loops_sQuantize) (fun _ => by first | rfl | (simp [ownsOf, ownsOf.ownsL, enc, encV, encS])) fun x hp => ?_
  obtain ⟨(xs : List tNote.den), (g : tFrac.den), _⟩ := x
  replace hp : (xs.length : Int) ≤ 9223372036854775807 := hp
  have htree : exFunc Try.prog C_Sq_7 false (addL (firstId (loopAt Try.f52 1)) ann_sQuantize_1 (addL (firstId (loopAt Try.f52 0)) ann_sQuantize_0 noL)) Try.f52 (encA [.s qNote, .s tFrac] (xs, g, ())) = .need ((↑xs.length : Int) ≤ (9223372036854775807 : Int)) (.ite (!scoreF xs) (.leaf [.agg [.nilS], .int .i64 ((1 : Int))]) (.ite (!okF g.fst g.snd) (.leaf [.agg [.nilS], .int .i64 ((1 : Int))]) (.ite (decide (g.fst ≤ (0 : Int))) (.leaf [.agg [.nilS], .int .i64 ((2 : Int))]) (.need ((((0 : Int) ≤ (0 : Int) ∧ (0 : Int) ≤ (↑xs.length : Int)) ∧ xs.length ≤ (60 : Nat) ∧ (↑(0 : Nat) : Int) ≤ (0 : Int)) ∧ notesF xs = true ∧ (okF g.fst g.snd = true ∧ (0 : Int) < g.fst) ∧ AllOk goodN []) (.ite (notesF (List.map (quN g) (List.drop (Int.toNat (0 : Int)) xs))) (.need ((List.foldl addQ [] (List.map (quN g) (List.drop (Int.toNat (0 : Int)) xs))).length ≤ (1000 : Nat) ∧ AllOk goodN (List.foldl addQ [] (List.map (quN g) (List.drop (Int.toNat (0 : Int)) xs)))) (.leaf [.agg [.own (tFrac.pair (tFrac.pair (I64.pair (I64.pair I64)))) (srt ltN (List.foldl addQ [] (List.map (quN g) (List.drop (Int.toNat (0 : Int)) xs))))], .int .i64 ((0 : Int))])) (.leaf [.agg [.nilS], .int .i64 ((2 : Int))])))))) := by kernel_rfl
  refine (congrArg (Tree.ok _) htree).mpr ?_
  clear htree
  have t0 : Int.toNat 0 = 0 := rfl
  have eta : ((g.1, g.2) : Fr) = g := rfl
  simp only [Tree.ok, tyd_inj, packAV, AV.same, AV.same.sameL, encV, encS, enc, inK, Nd.ok, List.headD_cons, List.cons_append, List.nil_append, List.append_nil, true_and, and_true, Bool.true_and, Bool.and_true, quS, eta, t0, List.drop_zero, decide_eq_true_eq, decide_eq_false_iff_not]
  cases h1 : scoreF xs
  · simp
    try exact hp
  cases h2 : okF g.1 g.2
  · simp
    try exact hp
  have hb := score_notes h1
  simp only [Bool.not_true, Bool.false_eq_true, false_implies, true_implies, and_self, if_true]
  by_cases h3 : (g.1 : Int) ≤ 0
  · simp [h3]
    try exact hp
  simp only [h3, false_implies, true_implies, not_false_eq_true, if_false]
  have hgl : (xs.map (quN g)).length = xs.length := by simp
  generalize xs.map (quN g) = ys at *
  have hf := fold_len ys []
  cases h4 : notesF ys
  · simp
    repeat' first | apply And.intro | intro _
    all_goals first | omega | assumption | exact hb.2 | exact Int.not_le.1 h3 | trivial
  · have hk := notesOk h4
    have hfs := fold_srt hk
    have hfg := fold_good ys [] hk (fun x hx => absurd hx (by simp))
    simp only [Bool.not_true, Bool.false_eq_true, false_implies, true_implies, if_true]
    rw [hfs]
    repeat' first | apply And.intro | intro _
    all_goals first | omega | assumption | exact hfg _ ‹_› | exact hk _ ‹_› | exact hb.2 | exact Int.not_le.1 h3 | trivial | rfl | contradiction | (simp at *; omega)
def C_Sq_8 : FuncId → Option Ct := addC 52 ct_sQuantize C_Sq_7
theorem C_Sq_8_ok : COk Try.prog C_Sq_8 := addC_ok C_Sq_7_ok sat_sQuantize

def C_Sq : FuncId → Option Ct := C_Sq_8
theorem C_Sq_ok : COk Try.prog C_Sq := C_Sq_8_ok
end Go.Proofs.Ytjgjcggecikdpaa
