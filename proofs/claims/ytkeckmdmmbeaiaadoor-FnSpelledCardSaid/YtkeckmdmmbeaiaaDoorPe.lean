/- Contracts: places and keys of pitches, intervals between them and their sums. Conditions: as each says. -/
import Derived.Test.YtkeckmdmmbeaiaaDoorUm
set_option linter.unusedSimpArgs false
set_option linter.unusedVariables false
namespace Go.Proofs.YtkeckmdmmbeaiaaDoor
open Go.RowKit Sx
set_option maxRecDepth 100000
set_option maxHeartbeats 1000000
def ct_iFifthsOf : Ct := ctOf [.s tPitch] (fun _ => .tt) (fun (((a : Int), (b : Int), (c : Int)), _) => .tup [.int .i64 (if okP a b c = true then fif7 a + 7 * b else 0), .int .i64 (if okP a b c = true then 0 else 1)])
set_option maxHeartbeats 1000000 in
theorem sat_iFifthsOf : Sat Tryd.prog 46 ct_iFifthsOf := by
  refine sat_typed (C := C_Um) (L := noL) (wr := false) mixedOk Tryd.func46 C_Um_ok (loops0 (by kernel_rfl)) (fun _ => by first | rfl | (simp [ownsOf, ownsOf.ownsL, enc, encV, encS])) fun x hp => ?_
  obtain ⟨⟨(a : Int), (b : Int), (c : Int)⟩, _⟩ := x
  clear hp
  have htree : exFunc Tryd.prog C_Um false noL Tryd.f46 (encA [.s tPitch] ((a, b, c), ())) = .ite (!okP a b c) (.leaf [.int .i64 ((0 : Int)), .int .i64 ((1 : Int))]) (.need (((0 : Int) ≤ a ∧ a ≤ (6 : Int)) ∧ ((-1000 : Int) ≤ b ∧ b ≤ (1000 : Int)) ∧ c = c) (.leaf [.int .i64 (fif7 a + (7 : Int) * b), .int .i64 ((0 : Int))])) := by kernel_rfl
  refine (congrArg (Tree.ok _) htree).mpr ?_
  clear htree
  cases hk : okP a b c
  · simp [Tree.ok, tyd_inj, packAV, AV.same, AV.same.sameL, encV, encS, enc, inK, Nd.ok, List.headD_cons, List.cons_append, List.nil_append, List.append_nil, true_and, and_true, Bool.true_and, Bool.and_true, hk]
  have hb := okP_bd hk
  simp only [Tree.ok, tyd_inj, packAV, AV.same, AV.same.sameL, encV, encS, enc, inK, Nd.ok, List.headD_cons, List.cons_append, List.nil_append, List.append_nil, true_and, and_true, Bool.true_and, Bool.and_true, hk, if_true, Bool.not_true, Bool.false_eq_true]
  repeat' first | apply And.intro | intro _
  all_goals first | omega | trivial | rfl | contradiction
def C_Pe_1 : FuncId → Option Ct := addC 46 ct_iFifthsOf C_Um
theorem C_Pe_1_ok : COk Tryd.prog C_Pe_1 := addC_ok C_Um_ok sat_iFifthsOf
def ct_iKeyOfPitch : Ct := ctOf [.s tPitch] (fun _ => .tt) (fun (((a : Int), (b : Int), (c : Int)), _) => .int .i64 (if okP a b c = true then keyF a b c else -1))
set_option maxHeartbeats 1000000 in
theorem sat_iKeyOfPitch : Sat Tryd.prog 47 ct_iKeyOfPitch := by
  refine sat_typed (C := C_Pe_1) (L := noL) (wr := false) mixedOk Tryd.func47 C_Pe_1_ok (loops0 (by kernel_rfl)) (fun _ => by first | rfl | (simp [ownsOf, ownsOf.ownsL, enc, encV, encS])) fun x hp => ?_
  obtain ⟨⟨(a : Int), (b : Int), (c : Int)⟩, _⟩ := x
  clear hp
  have htree : exFunc Tryd.prog C_Pe_1 false noL Tryd.f47 (encA [.s tPitch] ((a, b, c), ())) = .ite (!okP a b c) (.leaf [.int .i64 ((-1 : Int))]) (.need (((0 : Int) ≤ a ∧ a ≤ (6 : Int)) ∧ ((-1000 : Int) ≤ b ∧ b ≤ (1000 : Int)) ∧ (-1000 : Int) ≤ c ∧ c ≤ (1000 : Int)) (.leaf [.int .i64 (keyF a b c)])) := by kernel_rfl
  refine (congrArg (Tree.ok _) htree).mpr ?_
  clear htree
  cases hk : okP a b c
  · simp [Tree.ok, tyd_inj, packAV, AV.same, AV.same.sameL, encV, encS, enc, inK, Nd.ok, List.headD_cons, List.cons_append, List.nil_append, List.append_nil, true_and, and_true, Bool.true_and, Bool.and_true, hk]
  have hb := okP_bd hk
  simp only [Tree.ok, tyd_inj, packAV, AV.same, AV.same.sameL, encV, encS, enc, inK, Nd.ok, List.headD_cons, List.cons_append, List.nil_append, List.append_nil, true_and, and_true, Bool.true_and, Bool.and_true, hk, if_true, Bool.not_true, Bool.false_eq_true]
  repeat' first | apply And.intro | intro _
  all_goals first | omega | trivial | rfl | contradiction
def C_Pe_2 : FuncId → Option Ct := addC 47 ct_iKeyOfPitch C_Pe_1
theorem C_Pe_2_ok : COk Tryd.prog C_Pe_2 := addC_ok C_Pe_1_ok sat_iKeyOfPitch
def ct_sKeyOfPitch : Ct := ctOf [.s tPitch] (fun _ => .tt) (fun (((a : Int), (b : Int), (c : Int)), _) => .int .i64 (if okP a b c = true then keyF a b c else -1))
set_option maxHeartbeats 1000000 in
theorem sat_sKeyOfPitch : Sat Tryd.prog 51 ct_sKeyOfPitch := by
  refine sat_typed (C := C_Pe_2) (L := noL) (wr := false) mixedOk Tryd.func51 C_Pe_2_ok (loops0 (by kernel_rfl)) (fun _ => by first | rfl | (simp [ownsOf, ownsOf.ownsL, enc, encV, encS])) fun x hp => ?_
  obtain ⟨⟨(a : Int), (b : Int), (c : Int)⟩, _⟩ := x
  clear hp
  have htree : exFunc Tryd.prog C_Pe_2 false noL Tryd.f51 (encA [.s tPitch] ((a, b, c), ())) = .ite (!okP a b c) (.leaf [.int .i64 ((-1 : Int))]) (.need (((0 : Int) ≤ a ∧ a ≤ (6 : Int)) ∧ ((-1000 : Int) ≤ b ∧ b ≤ (1000 : Int)) ∧ (-1000 : Int) ≤ c ∧ c ≤ (1000 : Int)) (.leaf [.int .i64 (keyF a b c)])) := by kernel_rfl
  refine (congrArg (Tree.ok _) htree).mpr ?_
  clear htree
  cases hk : okP a b c
  · simp [Tree.ok, tyd_inj, packAV, AV.same, AV.same.sameL, encV, encS, enc, inK, Nd.ok, List.headD_cons, List.cons_append, List.nil_append, List.append_nil, true_and, and_true, Bool.true_and, Bool.and_true, hk]
  have hb := okP_bd hk
  simp only [Tree.ok, tyd_inj, packAV, AV.same, AV.same.sameL, encV, encS, enc, inK, Nd.ok, List.headD_cons, List.cons_append, List.nil_append, List.append_nil, true_and, and_true, Bool.true_and, Bool.and_true, hk, if_true, Bool.not_true, Bool.false_eq_true]
  repeat' first | apply And.intro | intro _
  all_goals first | omega | trivial | rfl | contradiction
def C_Pe_3 : FuncId → Option Ct := addC 51 ct_sKeyOfPitch C_Pe_2
theorem C_Pe_3_ok : COk Tryd.prog C_Pe_3 := addC_ok C_Pe_2_ok sat_sKeyOfPitch
def toldI (a b : Int) : (Int × Int) × Int := if okI a b = true then ((a, b), 0) else ((0, 0), 2)
def betF (s1 a1 o1 s2 a2 o2 : Int) : (Int × Int) × Int := if okP s1 a1 o1 = true ∧ okP s2 a2 o2 = true then toldI (7 * o2 + s2 - (7 * o1 + s1)) (keyF s2 a2 o2 - keyF s1 a1 o1) else ((0, 0), 1)
def sumF (a b c d : Int) : (Int × Int) × Int := if okI a b = true ∧ okI c d = true then toldI (a + c) (b + d) else ((0, 0), 1)
def ct_sBetween : Ct := ctOf [.s tPitch, .s tPitch] (fun _ => .tt) (fun (((a : Int), (b : Int), (c : Int)), ((d : Int), (e : Int), (f : Int)), _) => .tup [.agg (enc tIv (betF a b c d e f).1), .int .i64 (betF a b c d e f).2])
set_option maxHeartbeats 1000000 in
theorem sat_sBetween : Sat Tryd.prog 50 ct_sBetween := by
  refine sat_typed (C := C_Pe_3) (L := noL) (wr := false) mixedOk Tryd.func50 C_Pe_3_ok (loops0 (by kernel_rfl)) (fun _ => by first | rfl | (simp [ownsOf, ownsOf.ownsL, enc, encV, encS])) fun x hp => ?_
  obtain ⟨⟨(a : Int), (b : Int), (c : Int)⟩, ⟨(d : Int), (e : Int), (f : Int)⟩, _⟩ := x
  clear hp
  have htree : exFunc Tryd.prog C_Pe_3 false noL Tryd.f50 (encA [.s tPitch, .s tPitch] ((a, b, c), (d, e, f), ())) = .ite (!okP a b c) (.leaf [.agg [.int .i64 ((0 : Int)), .int .i64 ((0 : Int))], .int .i64 ((1 : Int))]) (.ite (!okP d e f) (.leaf [.agg [.int .i64 ((0 : Int)), .int .i64 ((0 : Int))], .int .i64 ((1 : Int))]) (.need (inK IntKind.i64 (f - c)) (.need (inK IntKind.i64 ((7 : Int) * (f - c))) (.need (inK IntKind.i64 ((7 : Int) * (f - c) + d)) (.need (inK IntKind.i64 ((7 : Int) * (f - c) + d - a)) (.need (((0 : Int) ≤ d ∧ d ≤ (6 : Int)) ∧ ((-1000 : Int) ≤ e ∧ e ≤ (1000 : Int)) ∧ (-1000 : Int) ≤ f ∧ f ≤ (1000 : Int)) (.need (((0 : Int) ≤ a ∧ a ≤ (6 : Int)) ∧ ((-1000 : Int) ≤ b ∧ b ≤ (1000 : Int)) ∧ (-1000 : Int) ≤ c ∧ c ≤ (1000 : Int)) (.need (inK IntKind.i64 (keyF d e f - keyF a b c)) (.ite (!okI ((7 : Int) * (f - c) + d - a) (keyF d e f - keyF a b c)) (.leaf [.agg [.int .i64 ((0 : Int)), .int .i64 ((0 : Int))], .int .i64 ((2 : Int))]) (.leaf [.agg [.int .i64 ((7 : Int) * (f - c) + d - a), .int .i64 (keyF d e f - keyF a b c)], .int .i64 ((0 : Int))])))))))))) := by kernel_rfl
  refine (congrArg (Tree.ok _) htree).mpr ?_
  clear htree
  unfold betF toldI
  cases hk : okP a b c
  · simp [Tree.ok, tyd_inj, packAV, AV.same, AV.same.sameL, encV, encS, enc, inK, Nd.ok, List.headD_cons, List.cons_append, List.nil_append, List.append_nil, true_and, and_true, Bool.true_and, Bool.and_true, hk]
  cases hk2 : okP d e f
  · simp [Tree.ok, tyd_inj, packAV, AV.same, AV.same.sameL, encV, encS, enc, inK, Nd.ok, List.headD_cons, List.cons_append, List.nil_append, List.append_nil, true_and, and_true, Bool.true_and, Bool.and_true, hk, hk2]
  have hb := okP_bd hk
  have hb2 := okP_bd hk2
  have n1 := natF_bd a (by omega) (by omega)
  have n2 := natF_bd d (by omega) (by omega)
  have k1 : keyF a b c = 12 * (c + 1) + natF a + b := rfl
  have k2 : keyF d e f = 12 * (f + 1) + natF d + e := rfl
  have e1 : 7 * (f - c) + d - a = 7 * f + d - (7 * c + a) := by omega
  simp only [Tree.ok, tyd_inj, packAV, AV.same, AV.same.sameL, encV, encS, enc, inK, Nd.ok, List.headD_cons, List.cons_append, List.nil_append, List.append_nil, true_and, and_true, Bool.true_and, Bool.and_true, hk, hk2, if_true, Bool.not_true, Bool.false_eq_true, and_self, e1]
  cases hi : okI (7 * f + d - (7 * c + a)) (keyF d e f - keyF a b c)
  · simp only [Bool.false_eq_true, if_false]
    repeat' first | apply And.intro | intro _
    all_goals first | omega | trivial | rfl | contradiction | (trace_state; fail)
  · simp only [if_true]
    repeat' first | apply And.intro | intro _
    all_goals first | omega | trivial | rfl | contradiction | (trace_state; fail)
def C_Pe_4 : FuncId → Option Ct := addC 50 ct_sBetween C_Pe_3
theorem C_Pe_4_ok : COk Tryd.prog C_Pe_4 := addC_ok C_Pe_3_ok sat_sBetween

def C_Pe : FuncId → Option Ct := C_Pe_4
theorem C_Pe_ok : COk Tryd.prog C_Pe := C_Pe_4_ok
end Go.Proofs.YtkeckmdmmbeaiaaDoor
