/- Contracts: places and keys of pitches, intervals between them and their sums. Conditions: as each says. -/
import Derived.Test.YtkeckmdmmbeaiaaGreatDoorUm
set_option linter.unusedSimpArgs false
set_option linter.unusedVariables false
namespace Go.Proofs.YtkeckmdmmbeaiaaGreatDoor
open Go.RowKit Sx
set_option maxRecDepth 100000
set_option maxHeartbeats 1000000
def ct_iKeyOfPitch : Ct := ctOf [.s tPitch] (fun _ => .tt) (fun (((a : Int), (b : Int), (c : Int)), _) => .int .i64 (if okP a b c = true then keyF a b c else -1))
set_option maxHeartbeats 1000000 in
theorem sat_iKeyOfPitch : Sat Tryz.prog 35 ct_iKeyOfPitch := by
  refine sat_typed (C := C_Um) (L := noL) (wr := false) mixedOk Tryz.func35 C_Um_ok (loops0 (by kernel_rfl)) (fun _ => by first | rfl | (simp [ownsOf, ownsOf.ownsL, enc, encV, encS])) fun x hp => ?_
  obtain ⟨⟨(a : Int), (b : Int), (c : Int)⟩, _⟩ := x
  clear hp
  have htree : exFunc Tryz.prog C_Um false noL Tryz.f35 (encA [.s tPitch] ((a, b, c), ())) = .ite (!okP a b c) (.leaf [.int .i64 ((-1 : Int))]) (.need (((0 : Int) ≤ a ∧ a ≤ (6 : Int)) ∧ ((-1000 : Int) ≤ b ∧ b ≤ (1000 : Int)) ∧ (-1000 : Int) ≤ c ∧ c ≤ (1000 : Int)) (.leaf [.int .i64 (keyF a b c)])) := by kernel_rfl
  refine (congrArg (Tree.ok _) htree).mpr ?_
  clear htree
  cases hk : okP a b c
  · simp [Tree.ok, tyd_inj, packAV, AV.same, AV.same.sameL, encV, encS, enc, inK, Nd.ok, List.headD_cons, List.cons_append, List.nil_append, List.append_nil, true_and, and_true, Bool.true_and, Bool.and_true, hk]
  have hb := okP_bd hk
  simp only [Tree.ok, tyd_inj, packAV, AV.same, AV.same.sameL, encV, encS, enc, inK, Nd.ok, List.headD_cons, List.cons_append, List.nil_append, List.append_nil, true_and, and_true, Bool.true_and, Bool.and_true, hk, if_true, Bool.not_true, Bool.false_eq_true]
  repeat' first | apply And.intro | intro _
  all_goals first | omega | trivial | rfl | contradiction
def C_Pe_1 : FuncId → Option Ct := addC 35 ct_iKeyOfPitch C_Um
theorem C_Pe_1_ok : COk Tryz.prog C_Pe_1 := addC_ok C_Um_ok sat_iKeyOfPitch
def toldI (a b : Int) : (Int × Int) × Int := if okI a b = true then ((a, b), 0) else ((0, 0), 2)
def betF (s1 a1 o1 s2 a2 o2 : Int) : (Int × Int) × Int := if okP s1 a1 o1 = true ∧ okP s2 a2 o2 = true then toldI (7 * o2 + s2 - (7 * o1 + s1)) (keyF s2 a2 o2 - keyF s1 a1 o1) else ((0, 0), 1)
def sumF (a b c d : Int) : (Int × Int) × Int := if okI a b = true ∧ okI c d = true then toldI (a + c) (b + d) else ((0, 0), 1)
def ct_toldInterval : Ct := ctOf [.s tIv] (fun _ => .tt) (fun (((a : Int), (b : Int)), _) => .tup [.agg (enc tIv (toldI a b).1), .int .i64 (toldI a b).2])
set_option maxHeartbeats 1000000 in
theorem sat_toldInterval : Sat Tryz.prog 89 ct_toldInterval := by
  refine sat_typed (C := C_Pe_1) (L := noL) (wr := false) mixedOk Tryz.func89 C_Pe_1_ok (loops0 (by kernel_rfl)) (fun _ => by first | rfl | (simp [ownsOf, ownsOf.ownsL, enc, encV, encS])) fun x hp => ?_
  obtain ⟨⟨(a : Int), (b : Int)⟩, _⟩ := x
  clear hp
  have htree : exFunc Tryz.prog C_Pe_1 false noL Tryz.f89 (encA [.s tIv] ((a, b), ())) = .ite (!okI a b) (.leaf [.agg [.int .i64 ((0 : Int)), .int .i64 ((0 : Int))], .int .i64 ((2 : Int))]) (.leaf [.agg [.int .i64 (a), .int .i64 (b)], .int .i64 ((0 : Int))]) := by kernel_rfl
  refine (congrArg (Tree.ok _) htree).mpr ?_
  clear htree
  unfold toldI
  cases hk : okI a b <;> simp [Tree.ok, tyd_inj, packAV, AV.same, AV.same.sameL, encV, encS, enc, inK, Nd.ok, List.headD_cons, List.cons_append, List.nil_append, List.append_nil, true_and, and_true, Bool.true_and, Bool.and_true, hk]
def C_Pe_2 : FuncId → Option Ct := addC 89 ct_toldInterval C_Pe_1
theorem C_Pe_2_ok : COk Tryz.prog C_Pe_2 := addC_ok C_Pe_1_ok sat_toldInterval
def ct_iBetween : Ct := ctOf [.s tPitch, .s tPitch] (fun _ => .tt) (fun (((a : Int), (b : Int), (c : Int)), ((d : Int), (e : Int), (f : Int)), _) => .tup [.agg (enc tIv (betF a b c d e f).1), .int .i64 (betF a b c d e f).2])
set_option maxHeartbeats 1000000 in
theorem sat_iBetween : Sat Tryz.prog 36 ct_iBetween := by
  refine sat_typed (C := C_Pe_2) (L := noL) (wr := false) mixedOk Tryz.func36 C_Pe_2_ok (loops0 (by kernel_rfl)) (fun _ => by first | rfl | (simp [ownsOf, ownsOf.ownsL, enc, encV, encS])) fun x hp => ?_
  obtain ⟨⟨(a : Int), (b : Int), (c : Int)⟩, ⟨(d : Int), (e : Int), (f : Int)⟩, _⟩ := x
  clear hp
  have htree : exFunc Tryz.prog C_Pe_2 false noL Tryz.f36 (encA [.s tPitch, .s tPitch] ((a, b, c), (d, e, f), ())) = .ite (!okP a b c) (.leaf [.agg [.int .i64 ((0 : Int)), .int .i64 ((0 : Int))], .int .i64 ((1 : Int))]) (.ite (!okP d e f) (.leaf [.agg [.int .i64 ((0 : Int)), .int .i64 ((0 : Int))], .int .i64 ((1 : Int))]) (.need (((-1000 : Int) ≤ d ∧ d ≤ (1000 : Int)) ∧ (-1000 : Int) ≤ f ∧ f ≤ (1000 : Int)) (.need (((-1000 : Int) ≤ a ∧ a ≤ (1000 : Int)) ∧ (-1000 : Int) ≤ c ∧ c ≤ (1000 : Int)) (.need (inK IntKind.i64 ((7 : Int) * f + d + (0 : Int) * e - ((7 : Int) * c + a + (0 : Int) * b))) (.need (((0 : Int) ≤ d ∧ d ≤ (6 : Int)) ∧ ((-1000 : Int) ≤ e ∧ e ≤ (1000 : Int)) ∧ (-1000 : Int) ≤ f ∧ f ≤ (1000 : Int)) (.need (((0 : Int) ≤ a ∧ a ≤ (6 : Int)) ∧ ((-1000 : Int) ≤ b ∧ b ≤ (1000 : Int)) ∧ (-1000 : Int) ≤ c ∧ c ≤ (1000 : Int)) (.need (inK IntKind.i64 (keyF d e f - keyF a b c)) (.leaf [.agg [.int .i64 ((toldI ((7 : Int) * f + d + (0 : Int) * e - ((7 : Int) * c + a + (0 : Int) * b)) (keyF d e f - keyF a b c)).fst.fst), .int .i64 ((toldI ((7 : Int) * f + d + (0 : Int) * e - ((7 : Int) * c + a + (0 : Int) * b)) (keyF d e f - keyF a b c)).fst.snd)], .int .i64 ((toldI ((7 : Int) * f + d + (0 : Int) * e - ((7 : Int) * c + a + (0 : Int) * b)) (keyF d e f - keyF a b c)).snd)])))))))) := by kernel_rfl
  refine (congrArg (Tree.ok _) htree).mpr ?_
  clear htree
  unfold betF
  cases hk : okP a b c
  · simp [Tree.ok, tyd_inj, packAV, AV.same, AV.same.sameL, encV, encS, enc, inK, Nd.ok, List.headD_cons, List.cons_append, List.nil_append, List.append_nil, true_and, and_true, Bool.true_and, Bool.and_true, hk]
  cases hk2 : okP d e f
  · simp [Tree.ok, tyd_inj, packAV, AV.same, AV.same.sameL, encV, encS, enc, inK, Nd.ok, List.headD_cons, List.cons_append, List.nil_append, List.append_nil, true_and, and_true, Bool.true_and, Bool.and_true, hk, hk2]
  have hb := okP_bd hk
  have hb2 := okP_bd hk2
  have n1 := natF_bd a (by omega) (by omega)
  have n2 := natF_bd d (by omega) (by omega)
  have z1 : 0 * b = 0 := by omega
  have z2 : 0 * e = 0 := by omega
  simp only [Tree.ok, tyd_inj, packAV, AV.same, AV.same.sameL, encV, encS, enc, inK, Nd.ok, List.headD_cons, List.cons_append, List.nil_append, List.append_nil, true_and, and_true, Bool.true_and, Bool.and_true, hk, hk2, if_true, Bool.not_true, Bool.false_eq_true, z1, z2, Int.add_zero, and_self]
  have k1 : keyF a b c = 12 * (c + 1) + natF a + b := rfl
  have k2 : keyF d e f = 12 * (f + 1) + natF d + e := rfl
  repeat' first | apply And.intro | intro _
  all_goals first | omega | trivial | rfl | contradiction | (trace_state; fail)
def C_Pe_3 : FuncId → Option Ct := addC 36 ct_iBetween C_Pe_2
theorem C_Pe_3_ok : COk Tryz.prog C_Pe_3 := addC_ok C_Pe_2_ok sat_iBetween
def ct_iAddIntervals : Ct := ctOf [.s tIv, .s tIv] (fun _ => .tt) (fun (((a : Int), (b : Int)), ((c : Int), (d : Int)), _) => .tup [.agg (enc tIv (sumF a b c d).1), .int .i64 (sumF a b c d).2])
set_option maxHeartbeats 1000000 in
theorem sat_iAddIntervals : Sat Tryz.prog 40 ct_iAddIntervals := by
  refine sat_typed (C := C_Pe_3) (L := noL) (wr := false) mixedOk Tryz.func40 C_Pe_3_ok (loops0 (by kernel_rfl)) (fun _ => by first | rfl | (simp [ownsOf, ownsOf.ownsL, enc, encV, encS])) fun x hp => ?_
  obtain ⟨⟨(a : Int), (b : Int)⟩, ⟨(c : Int), (d : Int)⟩, _⟩ := x
  clear hp
  have htree : exFunc Tryz.prog C_Pe_3 false noL Tryz.f40 (encA [.s tIv, .s tIv] ((a, b), (c, d), ())) = .ite (!okI a b) (.leaf [.agg [.int .i64 ((0 : Int)), .int .i64 ((0 : Int))], .int .i64 ((1 : Int))]) (.ite (!okI c d) (.leaf [.agg [.int .i64 ((0 : Int)), .int .i64 ((0 : Int))], .int .i64 ((1 : Int))]) (.need (inK IntKind.i64 (a + c)) (.need (inK IntKind.i64 (b + d)) (.leaf [.agg [.int .i64 ((toldI (a + c) (b + d)).fst.fst), .int .i64 ((toldI (a + c) (b + d)).fst.snd)], .int .i64 ((toldI (a + c) (b + d)).snd)])))) := by kernel_rfl
  refine (congrArg (Tree.ok _) htree).mpr ?_
  clear htree
  unfold sumF
  cases hk : okI a b
  · simp [Tree.ok, tyd_inj, packAV, AV.same, AV.same.sameL, encV, encS, enc, inK, Nd.ok, List.headD_cons, List.cons_append, List.nil_append, List.append_nil, true_and, and_true, Bool.true_and, Bool.and_true, hk]
  cases hk2 : okI c d
  · simp [Tree.ok, tyd_inj, packAV, AV.same, AV.same.sameL, encV, encS, enc, inK, Nd.ok, List.headD_cons, List.cons_append, List.nil_append, List.append_nil, true_and, and_true, Bool.true_and, Bool.and_true, hk, hk2]
  have hb := okI_bd hk
  have hb2 := okI_bd hk2
  simp only [Tree.ok, tyd_inj, packAV, AV.same, AV.same.sameL, encV, encS, enc, inK, Nd.ok, List.headD_cons, List.cons_append, List.nil_append, List.append_nil, true_and, and_true, Bool.true_and, Bool.and_true, hk, hk2, if_true, Bool.not_true, Bool.false_eq_true, and_self]
  repeat' first | apply And.intro | intro _
  all_goals first | omega | trivial | rfl | contradiction | (trace_state; fail)
def C_Pe_4 : FuncId → Option Ct := addC 40 ct_iAddIntervals C_Pe_3
theorem C_Pe_4_ok : COk Tryz.prog C_Pe_4 := addC_ok C_Pe_3_ok sat_iAddIntervals

def C_Pe : FuncId → Option Ct := C_Pe_4
theorem C_Pe_ok : COk Tryz.prog C_Pe := C_Pe_4_ok
end Go.Proofs.YtkeckmdmmbeaiaaGreatDoor
