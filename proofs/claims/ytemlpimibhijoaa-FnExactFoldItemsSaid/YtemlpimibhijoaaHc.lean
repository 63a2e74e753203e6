/- Contracts: moves of pitches, played items, of the program and the reference. Conditions: as each says. -/
import Derived.Test.YtemlpimibhijoaaHb
import Derived.Test.YtemlpimibhijoaaHcL
set_option linter.unusedSimpArgs false
set_option linter.unusedVariables false
namespace Go.Proofs.Ytemlpimibhijoaa
open Go.RowKit Sx
set_option maxRecDepth 100000
set_option maxHeartbeats 1000000
def ct_place : Ct := ctOf [.s tPitch] (fun (((st : Int), (al : Int), (oc : Int)), _) => .p ((-1000 ≤ st ∧ st ≤ 1000) ∧ (-1000 ≤ oc ∧ oc ≤ 1000))) (fun (((st : Int), (al : Int), (oc : Int)), _) => .int .i64 (7 * oc + st + 0 * al))
set_option maxHeartbeats 1000000 in
theorem sat_place : Sat Try.prog 130 ct_place := by
  refine sat_typed (C := C_Hb) (L := noL) (wr := false) mixedOk Try.func130 C_Hb_ok (loops0 (by kernel_rfl)) (fun _ => by first | rfl | (simp [ownsOf, ownsOf.ownsL, enc, encV, encS])) fun x hp => ?_
  obtain ⟨⟨(st : Int), (al : Int), (oc : Int)⟩, _⟩ := x
  replace hp : (-1000 ≤ st ∧ st ≤ 1000) ∧ (-1000 ≤ oc ∧ oc ≤ 1000) := hp
  have htree : exFunc Try.prog C_Hb false noL Try.f130 (encA [.s tPitch] ((st, al, oc), ())) = .need (inK IntKind.i64 ((7 : Int) * oc)) (.need (inK IntKind.i64 ((7 : Int) * oc + st)) (.leaf [.int .i64 ((7 : Int) * oc + st)])) := by kernel_rfl
  refine (congrArg (Tree.ok _) htree).mpr ?_
  clear htree
  simp [Tree.ok, tyd_inj, packAV, AV.same, AV.same.sameL, encV, encS, enc, inK, Nd.ok, List.headD_cons, List.cons_append, List.nil_append, List.append_nil, true_and, and_true, Bool.true_and, Bool.and_true]; omega
def C_Hc_1 : FuncId → Option Ct := addC 130 ct_place C_Hb
theorem C_Hc_1_ok : COk Try.prog C_Hc_1 := addC_ok C_Hb_ok sat_place
def ct_floorDiv : Ct := ctOf [.v (.int .i64), .v (.int .i64)] (fun ((a : Int), (b : Int), _) => .p (1 ≤ b ∧ -9223372036854775807 ≤ a ∧ a ≤ 9223372036854775807)) (fun ((a : Int), (b : Int), _) => .int .i64 (a / b))
set_option maxHeartbeats 1000000 in
theorem sat_floorDiv : Sat Try.prog 99 ct_floorDiv := by
  refine sat_typed (C := C_Hc_1) (L := noL) (wr := false) mixedOk Try.func99 C_Hc_1_ok (loops0 (by kernel_rfl)) (fun _ => by first | rfl | (simp [ownsOf, ownsOf.ownsL, enc, encV, encS])) fun x hp => ?_
  obtain ⟨(a : Int), (b : Int), _⟩ := x
  replace hp : 1 ≤ b ∧ -9223372036854775807 ≤ a ∧ a ≤ 9223372036854775807 := hp
  have htree : exFunc Try.prog C_Hc_1 false noL Try.f99 (encA [.v (.int .i64), .v (.int .i64)] (a, b, ())) = .need (b ≠ (0 : Int) ∧ inK IntKind.i64 (a.tdiv b)) (.need (b ≠ (0 : Int)) (.ite (decide (a.tmod b < (0 : Int))) (.need (inK IntKind.i64 (a.tdiv b - (1 : Int))) (.leaf [.int .i64 (a.tdiv b - (1 : Int))])) (.leaf [.int .i64 (a.tdiv b)]))) := by kernel_rfl
  refine (congrArg (Tree.ok _) htree).mpr ?_
  clear htree
  have h1 := fdiv_rule a b hp.1
  have h2 := tdiv_small a b hp.1
  simp only [Tree.ok, tyd_inj, packAV, AV.same, AV.same.sameL, encV, encS, enc, inK, Nd.ok, List.headD_cons, List.cons_append, List.nil_append, List.append_nil, true_and, and_true, Bool.true_and, Bool.and_true, decide_eq_true_eq, decide_eq_false_iff_not]
  generalize a.tdiv b = q at *
  generalize a.tmod b = r at *
  generalize a / b = e at *
  omega
def C_Hc_2 : FuncId → Option Ct := addC 99 ct_floorDiv C_Hc_1
theorem C_Hc_2_ok : COk Try.prog C_Hc_2 := addC_ok C_Hc_1_ok sat_floorDiv
def ct_l02Div : Ct := ctOf [.v (.int .i64), .v (.int .i64)] (fun ((a : Int), (b : Int), _) => .p (1 ≤ b ∧ -9223372036854775807 ≤ a ∧ a ≤ 9223372036854775807)) (fun ((a : Int), (b : Int), _) => .int .i64 (a / b))
set_option maxHeartbeats 1000000 in
theorem sat_l02Div : Sat Try.prog 116 ct_l02Div := by
  refine sat_typed (C := C_Hc_2) (L := noL) (wr := false) mixedOk Try.func116 C_Hc_2_ok (loops0 (by kernel_rfl)) (fun _ => by first | rfl | (simp [ownsOf, ownsOf.ownsL, enc, encV, encS])) fun x hp => ?_
  obtain ⟨(a : Int), (b : Int), _⟩ := x
  replace hp : 1 ≤ b ∧ -9223372036854775807 ≤ a ∧ a ≤ 9223372036854775807 := hp
  have htree : exFunc Try.prog C_Hc_2 false noL Try.f116 (encA [.v (.int .i64), .v (.int .i64)] (a, b, ())) = .need (b ≠ (0 : Int) ∧ inK IntKind.i64 (a.tdiv b)) (.need (b ≠ (0 : Int)) (.ite (decide (a.tmod b < (0 : Int))) (.need (inK IntKind.i64 (a.tdiv b - (1 : Int))) (.leaf [.int .i64 (a.tdiv b - (1 : Int))])) (.leaf [.int .i64 (a.tdiv b)]))) := by kernel_rfl
  refine (congrArg (Tree.ok _) htree).mpr ?_
  clear htree
  have h1 := fdiv_rule a b hp.1
  have h2 := tdiv_small a b hp.1
  simp only [Tree.ok, tyd_inj, packAV, AV.same, AV.same.sameL, encV, encS, enc, inK, Nd.ok, List.headD_cons, List.cons_append, List.nil_append, List.append_nil, true_and, and_true, Bool.true_and, Bool.and_true, decide_eq_true_eq, decide_eq_false_iff_not]
  generalize a.tdiv b = q at *
  generalize a.tmod b = r at *
  generalize a / b = e at *
  omega
def C_Hc_3 : FuncId → Option Ct := addC 116 ct_l02Div C_Hc_2
theorem C_Hc_3_ok : COk Try.prog C_Hc_3 := addC_ok C_Hc_2_ok sat_l02Div
def ct_modulo : Ct := ctOf [.v (.int .i64), .v (.int .i64)] (fun ((a : Int), (b : Int), _) => .p (1 ≤ b ∧ b ≤ 1000000000 ∧ -4611686018427387904 ≤ a ∧ a ≤ 4611686018427387904)) (fun ((a : Int), (b : Int), _) => .int .i64 (a % b))
set_option maxHeartbeats 1000000 in
theorem sat_modulo : Sat Try.prog 100 ct_modulo := by
  refine sat_typed (C := C_Hc_3) (L := noL) (wr := false) mixedOk Try.func100 C_Hc_3_ok (loops0 (by kernel_rfl)) (fun _ => by first | rfl | (simp [ownsOf, ownsOf.ownsL, enc, encV, encS])) fun x hp => ?_
  obtain ⟨(a : Int), (b : Int), _⟩ := x
  replace hp : 1 ≤ b ∧ b ≤ 1000000000 ∧ -4611686018427387904 ≤ a ∧ a ≤ 4611686018427387904 := hp
  have htree : exFunc Try.prog C_Hc_3 false noL Try.f100 (encA [.v (.int .i64), .v (.int .i64)] (a, b, ())) = .need ((1 : Int) ≤ b ∧ (-9223372036854775807 : Int) ≤ a ∧ a ≤ (9223372036854775807 : Int)) (.need (inK IntKind.i64 (b * (a / b))) (.need (inK IntKind.i64 (a - b * (a / b))) (.leaf [.int .i64 (a - b * (a / b))]))) := by kernel_rfl
  refine (congrArg (Tree.ok _) htree).mpr ?_
  clear htree
  have h1 : b * (a / b) + a % b = a := Int.mul_ediv_add_emod a b
  have h2 := Int.emod_nonneg a (b := b) (by omega)
  have h3 := Int.emod_lt_of_pos a (b := b) (by omega)
  simp only [Tree.ok, tyd_inj, packAV, AV.same, AV.same.sameL, encV, encS, enc, inK, Nd.ok, List.headD_cons, List.cons_append, List.nil_append, List.append_nil, true_and, and_true, Bool.true_and, Bool.and_true]
  generalize a % b = r at *
  generalize b * (a / b) = m at *
  omega
def C_Hc_4 : FuncId → Option Ct := addC 100 ct_modulo C_Hc_3
theorem C_Hc_4_ok : COk Try.prog C_Hc_4 := addC_ok C_Hc_3_ok sat_modulo
def ct_iMovePitch : Ct := ctOf [.s tPitch, .s tIv] (fun _ => .tt) (fun (((s : Int), (a : Int), (o : Int)), ((i : Int), (j : Int)), _) => .tup [.agg (enc tPitch (moveF s a o i j).1), .int .i64 (moveF s a o i j).2])
set_option maxHeartbeats 1000000 in
theorem sat_iMovePitch : Sat Try.prog 129 ct_iMovePitch := by
  refine sat_typed (C := C_Hc_4) (L := noL) (wr := false) mixedOk Try.func129 C_Hc_4_ok (loops0 (by kernel_rfl)) (fun _ => by first | rfl | (simp [ownsOf, ownsOf.ownsL, enc, encV, encS])) fun x hp => ?_
  obtain ⟨⟨(s : Int), (a : Int), (o : Int)⟩, ⟨(i : Int), (j : Int)⟩, _⟩ := x
  clear hp
  have htree : exFunc Try.prog C_Hc_4 false noL Try.f129 (encA [.s tPitch, .s tIv] ((s, a, o), (i, j), ())) = .ite (!okP s a o) (.leaf [.agg [.int .i64 ((0 : Int)), .int .i64 ((0 : Int)), .int .i64 ((0 : Int))], .int .i64 ((1 : Int))]) (.ite (!okI i j) (.leaf [.agg [.int .i64 ((0 : Int)), .int .i64 ((0 : Int)), .int .i64 ((0 : Int))], .int .i64 ((1 : Int))]) (.need (((-1000 : Int) ≤ s ∧ s ≤ (1000 : Int)) ∧ (-1000 : Int) ≤ o ∧ o ≤ (1000 : Int)) (.need (inK IntKind.i64 ((7 : Int) * o + s + (0 : Int) * a + i)) (.need ((1 : Int) ≤ (7 : Int) ∧ (-9223372036854775807 : Int) ≤ (7 : Int) * o + s + (0 : Int) * a + i ∧ (7 : Int) * o + s + (0 : Int) * a + i ≤ (9223372036854775807 : Int)) (.need ((1 : Int) ≤ (7 : Int) ∧ (7 : Int) ≤ (1000000000 : Int) ∧ (-4611686018427387904 : Int) ≤ (7 : Int) * o + s + (0 : Int) * a + i ∧ (7 : Int) * o + s + (0 : Int) * a + i ≤ (4611686018427387904 : Int)) (.need (((0 : Int) ≤ s ∧ s ≤ (6 : Int)) ∧ ((-1000 : Int) ≤ a ∧ a ≤ (1000 : Int)) ∧ (-1000 : Int) ≤ o ∧ o ≤ (1000 : Int)) (.need (inK IntKind.i64 (keyF s a o + j)) (.need (((0 : Int) ≤ ((7 : Int) * o + s + (0 : Int) * a + i) % (7 : Int) ∧ ((7 : Int) * o + s + (0 : Int) * a + i) % (7 : Int) ≤ (6 : Int)) ∧ ((-1000 : Int) ≤ (0 : Int) ∧ (0 : Int) ≤ (1000 : Int)) ∧ (-1000 : Int) ≤ ((7 : Int) * o + s + (0 : Int) * a + i) / (7 : Int) ∧ ((7 : Int) * o + s + (0 : Int) * a + i) / (7 : Int) ≤ (1000 : Int)) (.need (inK IntKind.i64 (keyF s a o + j - keyF (((7 : Int) * o + s + (0 : Int) * a + i) % (7 : Int)) (0 : Int) (((7 : Int) * o + s + (0 : Int) * a + i) / (7 : Int)))) (.ite (!okP (((7 : Int) * o + s + (0 : Int) * a + i) % (7 : Int)) (keyF s a o + j - keyF (((7 : Int) * o + s + (0 : Int) * a + i) % (7 : Int)) (0 : Int) (((7 : Int) * o + s + (0 : Int) * a + i) / (7 : Int))) (((7 : Int) * o + s + (0 : Int) * a + i) / (7 : Int))) (.leaf [.agg [.int .i64 ((0 : Int)), .int .i64 ((0 : Int)), .int .i64 ((0 : Int))], .int .i64 ((2 : Int))]) (.leaf [.agg [.int .i64 (((7 : Int) * o + s + (0 : Int) * a + i) % (7 : Int)), .int .i64 (keyF s a o + j - keyF (((7 : Int) * o + s + (0 : Int) * a + i) % (7 : Int)) (0 : Int) (((7 : Int) * o + s + (0 : Int) * a + i) / (7 : Int))), .int .i64 (((7 : Int) * o + s + (0 : Int) * a + i) / (7 : Int))], .int .i64 ((0 : Int))]))))))))))) := by kernel_rfl
  refine (congrArg (Tree.ok _) htree).mpr ?_
  clear htree
  have h1 := @okP_bd s a o
  have h2 := @okI_bd i j
  have h3 := natF_bd ((7 * o + s + i) % 7)
  simp only [Tree.ok, tyd_inj, packAV, AV.same, AV.same.sameL, encV, encS, enc, inK, Nd.ok, List.headD_cons, List.cons_append, List.nil_append, List.append_nil, true_and, and_true, Bool.true_and, Bool.and_true]
  repeat' first | apply And.intro | intro _
  all_goals grind [moveF, mvN, mvA, keyF]
def C_Hc_5 : FuncId → Option Ct := addC 129 ct_iMovePitch C_Hc_4
theorem C_Hc_5_ok : COk Try.prog C_Hc_5 := addC_ok C_Hc_4_ok sat_iMovePitch
def ct_sMovePitch : Ct := ctOf [.s tPitch, .s tIv] (fun _ => .tt) (fun (((s : Int), (a : Int), (o : Int)), ((i : Int), (j : Int)), _) => .tup [.agg (enc tPitch (moveF s a o i j).1), .int .i64 (moveF s a o i j).2])
set_option maxHeartbeats 1000000 in
theorem sat_sMovePitch : Sat Try.prog 81 ct_sMovePitch := by
  refine sat_typed (C := C_Hc_5) (L := noL) (wr := false) mixedOk Try.func81 C_Hc_5_ok (loops0 (by kernel_rfl)) (fun _ => by first | rfl | (simp [ownsOf, ownsOf.ownsL, enc, encV, encS])) fun x hp => ?_
  obtain ⟨⟨(s : Int), (a : Int), (o : Int)⟩, ⟨(i : Int), (j : Int)⟩, _⟩ := x
  clear hp
  have htree : exFunc Try.prog C_Hc_5 false noL Try.f81 (encA [.s tPitch, .s tIv] ((s, a, o), (i, j), ())) = .ite (!okP s a o) (.leaf [.agg [.int .i64 ((0 : Int)), .int .i64 ((0 : Int)), .int .i64 ((0 : Int))], .int .i64 ((1 : Int))]) (.ite (!okI i j) (.leaf [.agg [.int .i64 ((0 : Int)), .int .i64 ((0 : Int)), .int .i64 ((0 : Int))], .int .i64 ((1 : Int))]) (.need (inK IntKind.i64 ((7 : Int) * o)) (.need (inK IntKind.i64 ((7 : Int) * o + s)) (.need (inK IntKind.i64 ((7 : Int) * o + s + i)) (.need ((1 : Int) ≤ (7 : Int) ∧ (-9223372036854775807 : Int) ≤ (7 : Int) * o + s + i ∧ (7 : Int) * o + s + i ≤ (9223372036854775807 : Int)) (.need (inK IntKind.i64 ((7 : Int) * (((7 : Int) * o + s + i) / (7 : Int)))) (.need (inK IntKind.i64 ((7 : Int) * o + s + i - (7 : Int) * (((7 : Int) * o + s + i) / (7 : Int)))) (.need (((0 : Int) ≤ s ∧ s ≤ (6 : Int)) ∧ ((-1000 : Int) ≤ a ∧ a ≤ (1000 : Int)) ∧ (-1000 : Int) ≤ o ∧ o ≤ (1000 : Int)) (.need (inK IntKind.i64 (keyF s a o + j)) (.need (((0 : Int) ≤ (7 : Int) * o + s + i - (7 : Int) * (((7 : Int) * o + s + i) / (7 : Int)) ∧ (7 : Int) * o + s + i - (7 : Int) * (((7 : Int) * o + s + i) / (7 : Int)) ≤ (6 : Int)) ∧ ((-1000 : Int) ≤ (0 : Int) ∧ (0 : Int) ≤ (1000 : Int)) ∧ (-1000 : Int) ≤ ((7 : Int) * o + s + i) / (7 : Int) ∧ ((7 : Int) * o + s + i) / (7 : Int) ≤ (1000 : Int)) (.need (inK IntKind.i64 (keyF s a o + j - keyF ((7 : Int) * o + s + i - (7 : Int) * (((7 : Int) * o + s + i) / (7 : Int))) (0 : Int) (((7 : Int) * o + s + i) / (7 : Int)))) (.ite (!okP ((7 : Int) * o + s + i - (7 : Int) * (((7 : Int) * o + s + i) / (7 : Int))) (keyF s a o + j - keyF ((7 : Int) * o + s + i - (7 : Int) * (((7 : Int) * o + s + i) / (7 : Int))) (0 : Int) (((7 : Int) * o + s + i) / (7 : Int))) (((7 : Int) * o + s + i) / (7 : Int))) (.leaf [.agg [.int .i64 ((0 : Int)), .int .i64 ((0 : Int)), .int .i64 ((0 : Int))], .int .i64 ((2 : Int))]) (.leaf [.agg [.int .i64 ((7 : Int) * o + s + i - (7 : Int) * (((7 : Int) * o + s + i) / (7 : Int))), .int .i64 (keyF s a o + j - keyF ((7 : Int) * o + s + i - (7 : Int) * (((7 : Int) * o + s + i) / (7 : Int))) (0 : Int) (((7 : Int) * o + s + i) / (7 : Int))), .int .i64 (((7 : Int) * o + s + i) / (7 : Int))], .int .i64 ((0 : Int))]))))))))))))) := by kernel_rfl
  refine (congrArg (Tree.ok _) htree).mpr ?_
  clear htree
  have h1 := @okP_bd s a o
  have h2 := @okI_bd i j
  have h3 := natF_bd ((7 * o + s + i) % 7)
  simp only [Tree.ok, tyd_inj, packAV, AV.same, AV.same.sameL, encV, encS, enc, inK, Nd.ok, List.headD_cons, List.cons_append, List.nil_append, List.append_nil, true_and, and_true, Bool.true_and, Bool.and_true]
  repeat' first | apply And.intro | intro _
  all_goals grind [moveF, mvN, mvA, keyF]
def C_Hc_6 : FuncId → Option Ct := addC 81 ct_sMovePitch C_Hc_5
theorem C_Hc_6_ok : COk Try.prog C_Hc_6 := addC_ok C_Hc_5_ok sat_sMovePitch
def ct_inner : Ct := ctOf [.v qItem, .v (.int .i64)] (fun ((l : List tItem.den), (i : Int), _) => .p ((0 ≤ i ∧ i < (l.length : Int)) ∧ (l.length ≤ 1000 ∧ 0 ≤ szB (l.getD i.toNat tItem.zero) ∧ szB (l.getD i.toNat tItem.zero) ≤ (l.length : Int) - (i + 1)))) (fun ((l : List tItem.den), (i : Int), _) => .view tItem ((l.drop (i.toNat + 1)).take (szN (l.getD i.toNat tItem.zero))))
set_option maxHeartbeats 1000000 in
theorem sat_inner : Sat Try.prog 117 ct_inner := by
  refine sat_typed (C := C_Hc_6) (L := noL) (wr := false) mixedOk Try.func117 C_Hc_6_ok (loops0 (by kernel_rfl)) (fun _ => by first | rfl | (simp [ownsOf, ownsOf.ownsL, enc, encV, encS])) fun x hp => ?_
  obtain ⟨(l : List tItem.den), (i : Int), _⟩ := x
  replace hp : (0 ≤ i ∧ i < (l.length : Int)) ∧ (l.length ≤ 1000 ∧ 0 ≤ szB (l.getD i.toNat tItem.zero) ∧ szB (l.getD i.toNat tItem.zero) ≤ (l.length : Int) - (i + 1)) := hp
  have htree : exFunc Try.prog C_Hc_6 false noL Try.f117 (encA [.v qItem, .v (.int .i64)] (l, i, ())) = .need (inK IntKind.i64 (i + (1 : Int))) (.need (inK IntKind.i64 (i + (1 : Int))) (.need ((0 : Int) ≤ i ∧ i < (↑l.length : Int)) (.need (inK IntKind.i64 (i + (1 : Int) + (getT tItem l i).snd.snd.snd.snd.snd)) (.need ((0 : Int) ≤ i + (1 : Int) ∧ i + (1 : Int) ≤ i + (1 : Int) + (getT tItem l i).snd.snd.snd.snd.snd ∧ i + (1 : Int) + (getT tItem l i).snd.snd.snd.snd.snd ≤ (↑l.length : Int)) (.leaf [.view (I64.pair (tPitch.seq.pair (tFrac.pair (I64.pair (tIv.pair I64))))) (cutL l (i + (1 : Int)) (i + (1 : Int) + (getT tItem l i).snd.snd.snd.snd.snd))]))))) := by kernel_rfl
  refine (congrArg (Tree.ok _) htree).mpr ?_
  clear htree
  obtain ⟨hi, hl, hz0, hz1⟩ := hp
  have hc := cut_nat l (i := i) (n := szB (l.getD i.toNat tItem.zero)) hi.1 hz0
  simp only [Tree.ok, tyd_inj, packAV, AV.same, AV.same.sameL, encV, encS, enc, inK, Nd.ok, List.headD_cons, List.cons_append, List.nil_append, List.append_nil, true_and, and_true, Bool.true_and, Bool.and_true, getT, szN]
  have e : (l.getD i.toNat tItem.zero).2.2.2.2.2 = szB (l.getD i.toNat tItem.zero) := rfl
  rw [e, hc]
  generalize szB (l.getD i.toNat tItem.zero) = z at *
  exact ⟨by omega, by omega, by omega, by omega, by omega, rfl⟩
def C_Hc_7 : FuncId → Option Ct := addC 117 ct_inner C_Hc_6
theorem C_Hc_7_ok : COk Try.prog C_Hc_7 := addC_ok C_Hc_6_ok sat_inner
theorem grp_bd {x : It} {t : Its} {d : Int} (h0 : 0 ≤ d) (h3 : d < 3) (hs : itSx x = true) (hg : grpB x = true) (hv : vl t (d + 1)) : 0 ≤ mulB x * cntI t ∧ mulB x * cntI t ≤ 512 * (t.length : Int) ∧ 0 ≤ cntI t ∧ cntI t ≤ 512 * (t.length : Int) := by
  have hm := ((itS_fields hs).1 hg).1
  have hc := cnt_bd (by omega) (by omega) hv
  have hn := pw_next h0 h3
  have hp := pw_pos d
  have hp' := pw_pos (d + 1)
  have e1 : mulB x * cntI t ≤ 8 * cntI t := Int.mul_le_mul_of_nonneg_right hm.2 hc.1
  have e2 : 0 ≤ mulB x * cntI t := Int.mul_nonneg (by omega) hc.1
  have e3 : 8 * (pw (d + 1) * (t.length : Int)) = pw d * (t.length : Int) := by rw [← Int.mul_assoc, hn]
  have e4 : pw d * (t.length : Int) ≤ 512 * (t.length : Int) := Int.mul_le_mul_of_nonneg_right hp.2 (by omega)
  have e5 : pw (d + 1) * (t.length : Int) ≤ 512 * (t.length : Int) := Int.mul_le_mul_of_nonneg_right hp'.2 (by omega)
  omega
theorem take_len {l : Its} {i : Nat} {n : Nat} (h : (n : Int) ≤ (l.length : Int) - (i + 1)) : ((l.drop (i + 1)).take n).length = n := by simp; omega
theorem cnt_at (l : Its) (i : Nat) (h : i < l.length) : cntI (l.drop i) = if grpB (l.getD i tItem.zero) = true then mulB (l.getD i tItem.zero) * cntI ((l.drop (i + 1)).take (szN (l.getD i tItem.zero))) + cntI (l.drop (i + 1 + szN (l.getD i tItem.zero))) else 1 + cntI (l.drop (i + 1)) := itR_at _ _ _ l i h
/-- What a place of a valid list is: an item, or a group. -/
theorem place {l : Its} {i : Nat} (h : i < l.length) (hv : ∃ d : Int, 0 ≤ d ∧ d ≤ 3 ∧ vl (l.drop i) d) :
    (grpB (l.getD i tItem.zero) = false ∧ szB (l.getD i tItem.zero) = 0 ∧ itSx (l.getD i tItem.zero) = true ∧ (∃ d : Int, 0 ≤ d ∧ d ≤ 3 ∧ vl (l.drop (i + 1)) d)) ∨
    (grpB (l.getD i tItem.zero) = true ∧ (1 ≤ szB (l.getD i tItem.zero) ∧ szB (l.getD i tItem.zero) ≤ (l.length : Int) - (i + 1)) ∧ itSx (l.getD i tItem.zero) = true ∧ (∃ d : Int, 0 ≤ d ∧ d ≤ 3 ∧ vl ((l.drop (i + 1)).take (szN (l.getD i tItem.zero))) d) ∧ (∃ d : Int, 0 ≤ d ∧ d ≤ 3 ∧ vl (l.drop (i + 1 + szN (l.getD i tItem.zero))) d) ∧
      (0 ≤ mulB (l.getD i tItem.zero) * cntI ((l.drop (i + 1)).take (szN (l.getD i tItem.zero))) ∧ mulB (l.getD i tItem.zero) * cntI ((l.drop (i + 1)).take (szN (l.getD i tItem.zero))) ≤ 512 * szB (l.getD i tItem.zero)) ∧ (0 ≤ cntI ((l.drop (i + 1)).take (szN (l.getD i tItem.zero))) ∧ cntI ((l.drop (i + 1)).take (szN (l.getD i tItem.zero))) ≤ 512 * szB (l.getD i tItem.zero)) ∧ ((l.drop (i + 1)).take (szN (l.getD i tItem.zero))).length = szN (l.getD i tItem.zero)) := by
  obtain ⟨d, d0, d3, hv⟩ := hv
  obtain ⟨h1, h2, h3⟩ := vl_at h hv
  cases hg : grpB (l.getD i tItem.zero)
  · exact .inl ⟨rfl, (itS_fields h1).2 hg, h1, d, d0, d3, h2 hg⟩
  · obtain ⟨k1, k2, k3, k4⟩ := h3 hg
    have hlen := take_len (l := l) (i := i) (n := szN (l.getD i tItem.zero)) (by unfold szN; omega)
    have hb := grp_bd d0 k1 h1 hg k3
    rw [hlen] at hb
    have e : ((szN (l.getD i tItem.zero) : Nat) : Int) = szB (l.getD i tItem.zero) := by unfold szN; omega
    rw [e] at hb
    exact .inr ⟨rfl, k2, h1, ⟨d + 1, by omega, by omega, k3⟩, ⟨d, d0, d3, k4⟩, ⟨hb.1, hb.2.1⟩, ⟨hb.2.2.1, hb.2.2.2⟩, hlen⟩
def ann_playedCount_0 (nn : Nat) : LAnn := { sameS := [0], modS := [2, 3, 4], sameH := [], modH := [], base := 900000, nilE := [], nilB := [], G := fun
  | ⟨[.view (.pair (.int .i64) (.pair (.seq (.pair (.int .i64) (.pair (.int .i64) (.int .i64)))) (.pair (.pair (.int .i64) (.int .i64)) (.pair (.int .i64) (.pair (.pair (.int .i64) (.int .i64)) (.int .i64)))))) l], [], [.int .i64 r, .int .i64 c, .int .i64 i], []⟩ => some (.p (((0 ≤ i ∧ i ≤ (l.length : Int)) ∧ l.length ≤ 80 ∧ l.length < nn + 1 ∧ (0 ≤ c ∧ c ≤ 512 * i)) ∧ ∃ d : Int, 0 ≤ d ∧ d ≤ 3 ∧ vl (l.drop i.toNat) d), .leaf (.exit 0) [.int .i64 r, .int .i64 (c + cntI (l.drop i.toNat)), .unk] [])
  | _ => none }
def pre_playedCount : Args [.v qItem] → Prop := fun ((l : List tItem.den), _) => l.length ≤ 80 ∧ ∃ d : Int, 0 ≤ d ∧ d ≤ 3 ∧ vl l d
def mea_playedCount : Args [.v qItem] → Nat := fun ((l : List tItem.den), _) => l.length
def ct_playedCount_r (nn : Nat) : Ct := ctOf [.v qItem] (fun ((l : List tItem.den), _) => .p ((l.length ≤ 80 ∧ ∃ d : Int, 0 ≤ d ∧ d ≤ 3 ∧ vl l d) ∧ l.length < nn)) (fun ((l : List tItem.den), _) => .int .i64 (cntI l))
def ct_playedCount : Ct := ctOf [.v qItem] (fun ((l : List tItem.den), _) => .p (l.length ≤ 80 ∧ ∃ d : Int, 0 ≤ d ∧ d ≤ 3 ∧ vl l d)) (fun ((l : List tItem.den), _) => .int .i64 (cntI l))
set_option maxHeartbeats 1000000 in
theorem loop_playedCount_0 (nn : Nat) (hCr : COk Try.prog (addC 82 (ct_playedCount_r nn) C_Hc_7)) : LoopSat Try.prog Try.f82.ntmps (loopAt Try.f82 0) (ann_playedCount_0 nn) := by
  refine loopSat_of (C := (addC 82 (ct_playedCount_r nn) C_Hc_7)) (L := (addL (firstId (loopAt Try.f82 0)) (ann_playedCount_0 nn) noL)) (wr := false) mixedOk hCr (loopsIn0 (by kernel_rfl)) (fun d => match d.same, d.vals with | [.view _ l], [_, _, .int _ i] => ((l.length : Int) - i).toNat | _, _ => 0) fun d p t hG hp => ?_
  simp only [ann_playedCount_0] at hG
  split at hG
  rotate_left
  · simp at hG
  rename_i l r c i
  simp only [Option.some.injEq, Prod.mk.injEq] at hG
  obtain ⟨rfl, rfl⟩ := hG
  have htree : exRound Try.prog (addC 82 (ct_playedCount_r nn) C_Hc_7) false (addL (firstId (loopAt Try.f82 0)) (ann_playedCount_0 nn) noL) Try.f82.ntmps (ann_playedCount_0 nn) (loopAt Try.f82 0) ⟨[.view tItem l], [], [.int .i64 r, .int .i64 c, .int .i64 i], []⟩ = .ite (decide (i < (↑l.length : Int))) (.need ((0 : Int) ≤ i ∧ i < (↑l.length : Int)) (.ite ((getT tItem l i).fst == (4 : Int)) (.need (((0 : Int) ≤ i ∧ i < (↑l.length : Int)) ∧ l.length ≤ (1000 : Nat) ∧ (0 : Int) ≤ szB (l.getD i.toNat tItem.zero) ∧ szB (l.getD i.toNat tItem.zero) ≤ (↑l.length : Int) - (i + (1 : Int))) (.need (((List.take (szN (l.getD i.toNat tItem.zero)) (List.drop (i.toNat + (1 : Nat)) l)).length ≤ (80 : Nat) ∧ ∃ (d : Int), (0 : Int) ≤ d ∧ d ≤ (3 : Int) ∧ vl (List.take (szN (l.getD i.toNat tItem.zero)) (List.drop (i.toNat + (1 : Nat)) l)) d) ∧ (List.take (szN (l.getD i.toNat tItem.zero)) (List.drop (i.toNat + (1 : Nat)) l)).length < nn) (.need (inK IntKind.i64 ((getT tItem l i).snd.snd.snd.fst * cntI (List.take (szN (l.getD i.toNat tItem.zero)) (List.drop (i.toNat + (1 : Nat)) l)))) (.need (inK IntKind.i64 (c + (getT tItem l i).snd.snd.snd.fst * cntI (List.take (szN (l.getD i.toNat tItem.zero)) (List.drop (i.toNat + (1 : Nat)) l)))) (.need (inK IntKind.i64 (i + (getT tItem l i).snd.snd.snd.snd.snd)) (.need (inK IntKind.i64 (i + (getT tItem l i).snd.snd.snd.snd.snd + (1 : Int))) (.leaf (.normal, ⟨[.view (I64.pair (tPitch.seq.pair (tFrac.pair (I64.pair (tIv.pair I64))))) (l)], [], [.int .i64 (r), .int .i64 (c + (getT tItem l i).snd.snd.snd.fst * cntI (List.take (szN (l.getD i.toNat tItem.zero)) (List.drop (i.toNat + (1 : Nat)) l))), .int .i64 (i + (getT tItem l i).snd.snd.snd.snd.snd + (1 : Int))], []⟩)))))))) (.ite ((getT tItem l i).fst == (5 : Int)) (.need (((0 : Int) ≤ i ∧ i < (↑l.length : Int)) ∧ l.length ≤ (1000 : Nat) ∧ (0 : Int) ≤ szB (l.getD i.toNat tItem.zero) ∧ szB (l.getD i.toNat tItem.zero) ≤ (↑l.length : Int) - (i + (1 : Int))) (.need (((List.take (szN (l.getD i.toNat tItem.zero)) (List.drop (i.toNat + (1 : Nat)) l)).length ≤ (80 : Nat) ∧ ∃ (d : Int), (0 : Int) ≤ d ∧ d ≤ (3 : Int) ∧ vl (List.take (szN (l.getD i.toNat tItem.zero)) (List.drop (i.toNat + (1 : Nat)) l)) d) ∧ (List.take (szN (l.getD i.toNat tItem.zero)) (List.drop (i.toNat + (1 : Nat)) l)).length < nn) (.need (inK IntKind.i64 (c + cntI (List.take (szN (l.getD i.toNat tItem.zero)) (List.drop (i.toNat + (1 : Nat)) l)))) (.need (inK IntKind.i64 (i + (getT tItem l i).snd.snd.snd.snd.snd)) (.need (inK IntKind.i64 (i + (getT tItem l i).snd.snd.snd.snd.snd + (1 : Int))) (.leaf (.normal, ⟨[.view (I64.pair (tPitch.seq.pair (tFrac.pair (I64.pair (tIv.pair I64))))) (l)], [], [.int .i64 (r), .int .i64 (c + cntI (List.take (szN (l.getD i.toNat tItem.zero)) (List.drop (i.toNat + (1 : Nat)) l))), .int .i64 (i + (getT tItem l i).snd.snd.snd.snd.snd + (1 : Int))], []⟩))))))) (.need (inK IntKind.i64 (c + (1 : Int))) (.need (inK IntKind.i64 (i + (getT tItem l i).snd.snd.snd.snd.snd)) (.need (inK IntKind.i64 (i + (getT tItem l i).snd.snd.snd.snd.snd + (1 : Int))) (.leaf (.normal, ⟨[.view (I64.pair (tPitch.seq.pair (tFrac.pair (I64.pair (tIv.pair I64))))) (l)], [], [.int .i64 (r), .int .i64 (c + (1 : Int)), .int .i64 (i + (getT tItem l i).snd.snd.snd.snd.snd + (1 : Int))], []⟩)))))))) (.leaf ((.exit 0), ⟨[.view (I64.pair (tPitch.seq.pair (tFrac.pair (I64.pair (tIv.pair I64))))) (l)], [], [.int .i64 (r), .int .i64 (c), .int .i64 (i)], []⟩)) := by kernel_rfl
  rw [htree]
  clear htree
  replace hp : ((0 ≤ i ∧ i ≤ (l.length : Int)) ∧ l.length ≤ 80 ∧ l.length < nn + 1 ∧ (0 ≤ c ∧ c ≤ 512 * i)) ∧ ∃ d : Int, 0 ≤ d ∧ d ≤ 3 ∧ vl (l.drop i.toNat) d := hp
  obtain ⟨hp, hv⟩ := hp
  simp only [Tree.ok, tyd_inj, packAV, AV.same, AV.same.sameL, encV, encS, enc, inK, Nd.ok, List.headD_cons, List.cons_append, List.nil_append, List.append_nil, true_and, and_true, Bool.true_and, Bool.and_true, loop_next, weakBs_nil, weakBs_cons, weakB_self, weakB_row, weakB_int, weakL_nil, weakL_unk, weakL_guess, isRow_own, isRow_unk, weakL_int, weakL_bool, weakL_str, weakL_own, weakL_view, weakL_nilS, noRow_int, noRow_bool, own_inj, LTree.val, cond_true, cond_false, Prod.mk.injEq, List.cons.injEq, AV.int.injEq, AV.bool.injEq, AV.str.injEq, AV.agg.injEq, ann_playedCount_0, decide_eq_true_eq, decide_eq_false_iff_not]
  simp only [getT]
  refine ⟨fun ha => ?_, fun ha => ?_⟩
  · have h1 := cnt_at l i.toNat (by omega)
    rw [h1]
    clear h1
    rcases place (l := l) (i := i.toNat) (by omega) hv with ⟨hg, hz, hs, hd⟩ | ⟨hg, hz, hs, hi, hd, hb1, hb2, hlen⟩
    · rw [if_neg (by rw [hg]; simp)]
      obtain ⟨k, ps, a, b, v, m1, m2, z, he⟩ := i8 (l.getD i.toNat tItem.zero)
      simp only [he, grpB, szB, szN, Bool.or_eq_false_iff, decide_eq_false_iff_not] at *
      rw [show (i + z + 1).toNat = i.toNat + 1 by omega]
      repeat' first | apply And.intro | intro _
      all_goals first | omega | assumption | (simp_all; done)
    · rw [if_pos hg]
      obtain ⟨k, ps, a, b, v, m1, m2, z, he⟩ := i8 (l.getD i.toNat tItem.zero)
      simp only [he, grpB, szB, szN, mulB, Bool.or_eq_true, decide_eq_true_eq] at *
      rw [show (i + z + 1).toNat = i.toNat + 1 + z.toNat by omega]
      generalize (l.drop (i.toNat + 1)).take z.toNat = S at *
      by_cases hk : k = 4
      · simp only [if_pos hk] at *
        generalize v * cntI S = M at *
        repeat' first | apply And.intro | intro _
        all_goals first | omega | assumption | (simp_all; done)
      · simp only [if_neg hk, Int.one_mul] at *
        repeat' first | apply And.intro | intro _
        all_goals first | omega | assumption | (simp_all; done)
  · rw [show i.toNat = l.length by omega, List.drop_length]
    have e : cntI [] = 0 := rfl
    rw [e]; omega
theorem loops_playedCount (nn : Nat) (hCr : COk Try.prog (addC 82 (ct_playedCount_r nn) C_Hc_7)) : ∀ c, Try.f82.body = some c → LoopsOk Try.prog (addL (firstId (loopAt Try.f82 0)) (ann_playedCount_0 nn) noL) Try.f82.ntmps c := loopsN fun i hi ann h => by
  have hn : loopN Try.f82 = 1 := by kernel_rfl
  rw [hn] at hi
  exact match i, hi, h with
    | 0, _, h => (Option.some.inj ((show (addL (firstId (loopAt Try.f82 0)) (ann_playedCount_0 nn) noL) (firstId (loopAt Try.f82 0)) = some (ann_playedCount_0 nn) from by kernel_rfl).symm.trans h)) ▸ loop_playedCount_0 nn hCr
set_option maxHeartbeats 1000000 in
theorem step_playedCount (nn : Nat) (hCr : COk Try.prog (addC 82 (ct_playedCount_r nn) C_Hc_7)) : Sat Try.prog 82 (ct_playedCount_r (nn + 1)) := by
  refine sat_typed (C := (addC 82 (ct_playedCount_r nn) C_Hc_7)) (L := (addL (firstId (loopAt Try.f82 0)) (ann_playedCount_0 nn) noL)) (wr := false) mixedOk Try.func82 hCr (loops_playedCount nn hCr) (fun _ => by first | rfl | (simp [ownsOf, ownsOf.ownsL, enc, encV, encS])) fun x hp => ?_
  obtain ⟨(l : List tItem.den), _⟩ := x
  replace hp : (l.length ≤ 80 ∧ ∃ d : Int, 0 ≤ d ∧ d ≤ 3 ∧ vl l d) ∧ l.length < nn + 1 := hp
  have htree : exFunc Try.prog (addC 82 (ct_playedCount_r nn) C_Hc_7) false (addL (firstId (loopAt Try.f82 0)) (ann_playedCount_0 nn) noL) Try.f82 (encA [.v qItem] (l, ())) = .need ((((0 : Int) ≤ (0 : Int) ∧ (0 : Int) ≤ (↑l.length : Int)) ∧ l.length ≤ (80 : Nat) ∧ l.length < nn + (1 : Nat) ∧ (0 : Int) ≤ (0 : Int) ∧ (0 : Int) ≤ (512 : Int) * (0 : Int)) ∧ ∃ (d : Int), (0 : Int) ≤ d ∧ d ≤ (3 : Int) ∧ vl (List.drop (Int.toNat (0 : Int)) l) d) (.leaf [.int .i64 ((0 : Int) + cntI (List.drop (Int.toNat (0 : Int)) l))]) := by kernel_rfl
  refine (congrArg (Tree.ok _) htree).mpr ?_
  clear htree
  obtain ⟨⟨h1, h2⟩, h3⟩ := hp
  simp only [Tree.ok, tyd_inj, packAV, AV.same, AV.same.sameL, encV, encS, enc, inK, Nd.ok, List.headD_cons, List.cons_append, List.nil_append, List.append_nil, true_and, and_true, Bool.true_and, Bool.and_true, Int.toNat_zero, List.drop_zero]
  repeat' first | apply And.intro | intro _
  all_goals first | omega | assumption
theorem sat_playedCount_r : ∀ nn, Sat Try.prog 82 (ct_playedCount_r nn)
  | 0 => sat_zero (q := pre_playedCount) (m := mea_playedCount)
  | nn + 1 => step_playedCount nn (addC_ok C_Hc_7_ok (sat_playedCount_r nn))
theorem sat_playedCount : Sat Try.prog 82 ct_playedCount := sat_all (q := pre_playedCount) (m := mea_playedCount) fun nn => sat_playedCount_r nn
def C_Hc_8 : FuncId → Option Ct := addC 82 ct_playedCount C_Hc_7
theorem C_Hc_8_ok : COk Try.prog C_Hc_8 := addC_ok C_Hc_7_ok sat_playedCount
def ann_l19Count_0 (nn : Nat) : LAnn := { sameS := [0], modS := [2, 3, 4], sameH := [], modH := [], base := 900000, nilE := [], nilB := [], G := fun
  | ⟨[.view (.pair (.int .i64) (.pair (.seq (.pair (.int .i64) (.pair (.int .i64) (.int .i64)))) (.pair (.pair (.int .i64) (.int .i64)) (.pair (.int .i64) (.pair (.pair (.int .i64) (.int .i64)) (.int .i64)))))) l], [], [.int .i64 r, .int .i64 c, .int .i64 i], []⟩ => some (.p (((0 ≤ i ∧ i ≤ (l.length : Int)) ∧ l.length ≤ 80 ∧ l.length < nn + 1 ∧ (0 ≤ c ∧ c ≤ 512 * i)) ∧ ∃ d : Int, 0 ≤ d ∧ d ≤ 3 ∧ vl (l.drop i.toNat) d), .leaf (.exit 0) [.int .i64 r, .int .i64 (c + cntI (l.drop i.toNat)), .unk] [])
  | _ => none }
def pre_l19Count : Args [.v qItem] → Prop := fun ((l : List tItem.den), _) => l.length ≤ 80 ∧ ∃ d : Int, 0 ≤ d ∧ d ≤ 3 ∧ vl l d
def mea_l19Count : Args [.v qItem] → Nat := fun ((l : List tItem.den), _) => l.length
def ct_l19Count_r (nn : Nat) : Ct := ctOf [.v qItem] (fun ((l : List tItem.den), _) => .p ((l.length ≤ 80 ∧ ∃ d : Int, 0 ≤ d ∧ d ≤ 3 ∧ vl l d) ∧ l.length < nn)) (fun ((l : List tItem.den), _) => .int .i64 (cntI l))
def ct_l19Count : Ct := ctOf [.v qItem] (fun ((l : List tItem.den), _) => .p (l.length ≤ 80 ∧ ∃ d : Int, 0 ≤ d ∧ d ≤ 3 ∧ vl l d)) (fun ((l : List tItem.den), _) => .int .i64 (cntI l))
set_option maxHeartbeats 1000000 in
theorem loop_l19Count_0 (nn : Nat) (hCr : COk Try.prog (addC 39 (ct_l19Count_r nn) C_Hc_8)) : LoopSat Try.prog Try.f39.ntmps (loopAt Try.f39 0) (ann_l19Count_0 nn) := by
  refine loopSat_of (C := (addC 39 (ct_l19Count_r nn) C_Hc_8)) (L := (addL (firstId (loopAt Try.f39 0)) (ann_l19Count_0 nn) noL)) (wr := false) mixedOk hCr (loopsIn0 (by kernel_rfl)) (fun d => match d.same, d.vals with | [.view _ l], [_, _, .int _ i] => ((l.length : Int) - i).toNat | _, _ => 0) fun d p t hG hp => ?_
  simp only [ann_l19Count_0] at hG
  split at hG
  rotate_left
  · simp at hG
  rename_i l r c i
  simp only [Option.some.injEq, Prod.mk.injEq] at hG
  obtain ⟨rfl, rfl⟩ := hG
  have htree : exRound Try.prog (addC 39 (ct_l19Count_r nn) C_Hc_8) false (addL (firstId (loopAt Try.f39 0)) (ann_l19Count_0 nn) noL) Try.f39.ntmps (ann_l19Count_0 nn) (loopAt Try.f39 0) ⟨[.view tItem l], [], [.int .i64 r, .int .i64 c, .int .i64 i], []⟩ = .ite (decide (i < (↑l.length : Int))) (.need ((0 : Int) ≤ i ∧ i < (↑l.length : Int)) (.ite (!(decide ((getT tItem l i).fst = (4 : Int)) || decide ((getT tItem l i).fst = (5 : Int)))) (.need (inK IntKind.i64 (c + (1 : Int))) (.need (inK IntKind.i64 (i + (1 : Int))) (.leaf (.normal, ⟨[.view (I64.pair (tPitch.seq.pair (tFrac.pair (I64.pair (tIv.pair I64))))) (l)], [], [.int .i64 (r), .int .i64 (c + (1 : Int)), .int .i64 (i + (1 : Int))], []⟩)))) (.need (inK IntKind.i64 (i + (1 : Int))) (.need (inK IntKind.i64 (i + (1 : Int))) (.need (inK IntKind.i64 (i + (1 : Int) + (getT tItem l i).snd.snd.snd.snd.snd)) (.need ((0 : Int) ≤ i + (1 : Int) ∧ i + (1 : Int) ≤ i + (1 : Int) + (getT tItem l i).snd.snd.snd.snd.snd ∧ i + (1 : Int) + (getT tItem l i).snd.snd.snd.snd.snd ≤ (↑l.length : Int)) (.need (((cutL l (i + (1 : Int)) (i + (1 : Int) + (getT tItem l i).snd.snd.snd.snd.snd)).length ≤ (80 : Nat) ∧ ∃ (d : Int), (0 : Int) ≤ d ∧ d ≤ (3 : Int) ∧ vl (cutL l (i + (1 : Int)) (i + (1 : Int) + (getT tItem l i).snd.snd.snd.snd.snd)) d) ∧ (cutL l (i + (1 : Int)) (i + (1 : Int) + (getT tItem l i).snd.snd.snd.snd.snd)).length < nn) (.ite ((getT tItem l i).fst == (4 : Int)) (.need (inK IntKind.i64 (cntI (cutL l (i + (1 : Int)) (i + (1 : Int) + (getT tItem l i).snd.snd.snd.snd.snd)) * (getT tItem l i).snd.snd.snd.fst)) (.need (inK IntKind.i64 (c + cntI (cutL l (i + (1 : Int)) (i + (1 : Int) + (getT tItem l i).snd.snd.snd.snd.snd)) * (getT tItem l i).snd.snd.snd.fst)) (.need (inK IntKind.i64 (i + (getT tItem l i).snd.snd.snd.snd.snd)) (.need (inK IntKind.i64 (i + (getT tItem l i).snd.snd.snd.snd.snd + (1 : Int))) (.leaf (.normal, ⟨[.view (I64.pair (tPitch.seq.pair (tFrac.pair (I64.pair (tIv.pair I64))))) (l)], [], [.int .i64 (r), .int .i64 (c + cntI (cutL l (i + (1 : Int)) (i + (1 : Int) + (getT tItem l i).snd.snd.snd.snd.snd)) * (getT tItem l i).snd.snd.snd.fst), .int .i64 (i + (getT tItem l i).snd.snd.snd.snd.snd + (1 : Int))], []⟩)))))) (.need (inK IntKind.i64 (c + cntI (cutL l (i + (1 : Int)) (i + (1 : Int) + (getT tItem l i).snd.snd.snd.snd.snd)))) (.need (inK IntKind.i64 (i + (getT tItem l i).snd.snd.snd.snd.snd)) (.need (inK IntKind.i64 (i + (getT tItem l i).snd.snd.snd.snd.snd + (1 : Int))) (.leaf (.normal, ⟨[.view (I64.pair (tPitch.seq.pair (tFrac.pair (I64.pair (tIv.pair I64))))) (l)], [], [.int .i64 (r), .int .i64 (c + cntI (cutL l (i + (1 : Int)) (i + (1 : Int) + (getT tItem l i).snd.snd.snd.snd.snd))), .int .i64 (i + (getT tItem l i).snd.snd.snd.snd.snd + (1 : Int))], []⟩))))))))))))) (.leaf ((.exit 0), ⟨[.view (I64.pair (tPitch.seq.pair (tFrac.pair (I64.pair (tIv.pair I64))))) (l)], [], [.int .i64 (r), .int .i64 (c), .int .i64 (i)], []⟩)) := by kernel_rfl
  rw [htree]
  clear htree
  replace hp : ((0 ≤ i ∧ i ≤ (l.length : Int)) ∧ l.length ≤ 80 ∧ l.length < nn + 1 ∧ (0 ≤ c ∧ c ≤ 512 * i)) ∧ ∃ d : Int, 0 ≤ d ∧ d ≤ 3 ∧ vl (l.drop i.toNat) d := hp
  obtain ⟨hp, hv⟩ := hp
  simp only [Tree.ok, tyd_inj, packAV, AV.same, AV.same.sameL, encV, encS, enc, inK, Nd.ok, List.headD_cons, List.cons_append, List.nil_append, List.append_nil, true_and, and_true, Bool.true_and, Bool.and_true, loop_next, weakBs_nil, weakBs_cons, weakB_self, weakB_row, weakB_int, weakL_nil, weakL_unk, weakL_guess, isRow_own, isRow_unk, weakL_int, weakL_bool, weakL_str, weakL_own, weakL_view, weakL_nilS, noRow_int, noRow_bool, own_inj, LTree.val, cond_true, cond_false, Prod.mk.injEq, List.cons.injEq, AV.int.injEq, AV.bool.injEq, AV.str.injEq, AV.agg.injEq, ann_l19Count_0, decide_eq_true_eq, decide_eq_false_iff_not]
  simp only [getT]
  refine ⟨fun ha => ?_, fun ha => ?_⟩
  · have h1 := cnt_at l i.toNat (by omega)
    rw [h1]
    clear h1
    have hcut := fun h1 h2 => @cut_nat l i (szB (l.getD i.toNat tItem.zero)) h1 h2
    rcases place (l := l) (i := i.toNat) (by omega) hv with ⟨hg, hz, hs, hd⟩ | ⟨hg, hz, hs, hi, hd, hb1, hb2, hlen⟩
    · rw [if_neg (by rw [hg]; simp)]
      obtain ⟨k, ps, a, b, v, m1, m2, z, he⟩ := i8 (l.getD i.toNat tItem.zero)
      simp only [he, grpB, szB, szN, Bool.or_eq_false_iff, decide_eq_false_iff_not] at *
      rw [show (i + 1).toNat = i.toNat + 1 by omega]
      repeat' first | apply And.intro | intro _
      all_goals first | omega | assumption | (simp_all; done) | (simp_all; omega)
    · rw [if_pos hg]
      obtain ⟨k, ps, a, b, v, m1, m2, z, he⟩ := i8 (l.getD i.toNat tItem.zero)
      simp only [he, grpB, szB, szN, mulB, Bool.or_eq_true, decide_eq_true_eq] at *
      rw [show (i + z + 1).toNat = i.toNat + 1 + z.toNat by omega, hcut (by omega) (by omega)]
      clear hcut
      generalize (l.drop (i.toNat + 1)).take z.toNat = S at *
      by_cases hk : k = 4
      · simp only [if_pos hk] at *
        rw [Int.mul_comm (cntI S) v]
        generalize v * cntI S = M at *
        repeat' first | apply And.intro | intro _
        all_goals first | omega | assumption | (simp_all; done) | (simp_all; omega)
      · simp only [if_neg hk, Int.one_mul] at *
        repeat' first | apply And.intro | intro _
        all_goals first | omega | assumption | (simp_all; done) | (simp_all; omega)
  · rw [show i.toNat = l.length by omega, List.drop_length]
    have e : cntI [] = 0 := rfl
    rw [e]; omega
theorem loops_l19Count (nn : Nat) (hCr : COk Try.prog (addC 39 (ct_l19Count_r nn) C_Hc_8)) : ∀ c, Try.f39.body = some c → LoopsOk Try.prog (addL (firstId (loopAt Try.f39 0)) (ann_l19Count_0 nn) noL) Try.f39.ntmps c := loopsN fun i hi ann h => by
  have hn : loopN Try.f39 = 1 := by kernel_rfl
  rw [hn] at hi
  exact match i, hi, h with
    | 0, _, h => (Option.some.inj ((show (addL (firstId (loopAt Try.f39 0)) (ann_l19Count_0 nn) noL) (firstId (loopAt Try.f39 0)) = some (ann_l19Count_0 nn) from by kernel_rfl).symm.trans h)) ▸ loop_l19Count_0 nn hCr
set_option maxHeartbeats 1000000 in
theorem step_l19Count (nn : Nat) (hCr : COk Try.prog (addC 39 (ct_l19Count_r nn) C_Hc_8)) : Sat Try.prog 39 (ct_l19Count_r (nn + 1)) := by
  refine sat_typed (C := (addC 39 (ct_l19Count_r nn) C_Hc_8)) (L := (addL (firstId (loopAt Try.f39 0)) (ann_l19Count_0 nn) noL)) (wr := false) mixedOk Try.func39 hCr (loops_l19Count nn hCr) (fun _ => by first | rfl | (simp [ownsOf, ownsOf.ownsL, enc, encV, encS])) fun x hp => ?_
  obtain ⟨(l : List tItem.den), _⟩ := x
  replace hp : (l.length ≤ 80 ∧ ∃ d : Int, 0 ≤ d ∧ d ≤ 3 ∧ vl l d) ∧ l.length < nn + 1 := hp
  have htree : exFunc Try.prog (addC 39 (ct_l19Count_r nn) C_Hc_8) false (addL (firstId (loopAt Try.f39 0)) (ann_l19Count_0 nn) noL) Try.f39 (encA [.v qItem] (l, ())) = .need ((((0 : Int) ≤ (0 : Int) ∧ (0 : Int) ≤ (↑l.length : Int)) ∧ l.length ≤ (80 : Nat) ∧ l.length < nn + (1 : Nat) ∧ (0 : Int) ≤ (0 : Int) ∧ (0 : Int) ≤ (512 : Int) * (0 : Int)) ∧ ∃ (d : Int), (0 : Int) ≤ d ∧ d ≤ (3 : Int) ∧ vl (List.drop (Int.toNat (0 : Int)) l) d) (.leaf [.int .i64 ((0 : Int) + cntI (List.drop (Int.toNat (0 : Int)) l))]) := by kernel_rfl
  refine (congrArg (Tree.ok _) htree).mpr ?_
  clear htree
  obtain ⟨⟨h1, h2⟩, h3⟩ := hp
  simp only [Tree.ok, tyd_inj, packAV, AV.same, AV.same.sameL, encV, encS, enc, inK, Nd.ok, List.headD_cons, List.cons_append, List.nil_append, List.append_nil, true_and, and_true, Bool.true_and, Bool.and_true, Int.toNat_zero, List.drop_zero]
  repeat' first | apply And.intro | intro _
  all_goals first | omega | assumption
theorem sat_l19Count_r : ∀ nn, Sat Try.prog 39 (ct_l19Count_r nn)
  | 0 => sat_zero (q := pre_l19Count) (m := mea_l19Count)
  | nn + 1 => step_l19Count nn (addC_ok C_Hc_8_ok (sat_l19Count_r nn))
theorem sat_l19Count : Sat Try.prog 39 ct_l19Count := sat_all (q := pre_l19Count) (m := mea_l19Count) fun nn => sat_l19Count_r nn
def C_Hc_9 : FuncId → Option Ct := addC 39 ct_l19Count C_Hc_8
theorem C_Hc_9_ok : COk Try.prog C_Hc_9 := addC_ok C_Hc_8_ok sat_l19Count
theorem all_at {α : Type} (p : α → Bool) (l : List α) (z : α) (k : Nat) (h : k < l.length) : (l.drop k).all p = (p (l.getD k z) && (l.drop (k + 1)).all p) := by
  rw [List.drop_eq_getElem_cons h, getD_lt _ _ _ h, List.all_cons]
theorem map_at {α β : Type} (f : α → β) (l : List α) (z : α) (k : Nat) (h : k < l.length) : (l.drop k).map f = f (l.getD k z) :: (l.drop (k + 1)).map f := by
  rw [List.drop_eq_getElem_cons h, getD_lt _ _ _ h, List.map_cons]
def movedV (i j : Int) (y : It) : It × Int := if (y.2.1 : List tPitch.den).all (mvOk i j) = true then ((y.1, (y.2.1 : List tPitch.den).map (mvP i j), y.2.2), 0) else (tItem.zero, 2)
theorem mem_at {α : Type} {p : α → Prop} {l : List α} (h : ∀ z ∈ l, p z) (k : Nat) (z : α) (hk : k < l.length) : p (l.getD k z) := by
  rw [getD_lt _ _ _ hk]; exact h _ (List.getElem_mem hk)
def ann_moved_0 : LAnn := { sameS := [3, 4, 6, 14, 15], modS := [5, 16], sameH := [3], modH := [4, 6], base := 900000, nilE := [], nilB := [⟨6, 1, 800000, tPitch⟩], G := fun
  | ⟨[.ptr 3 0, .ptr 4 0, .ptr 6 0, .view (.pair (.int .i64) (.pair (.int .i64) (.int .i64))) ps, .int .i64 n], [.box [.int .i64 i, .int .i64 j]], [.int .i64 c, .int .i64 k], [[.int .i64 z1, .nilS, .int .i64 z2, .int .i64 z3, .int .i64 z4, .int .i64 z5, .int .i64 z6, .int .i64 z7], [.int .i64 a1, .own (.pair (.int .i64) (.pair (.int .i64) (.int .i64))) qs, .int .i64 b1, .int .i64 b2, .int .i64 b3, .int .i64 b4, .int .i64 b5, .int .i64 b6]]⟩ => some (.p (((0 ≤ k ∧ k ≤ n) ∧ n = (ps.length : Int) ∧ ps.length ≤ 6 ∧ (qs.length : Int) = k) ∧ okI i j = true ∧ ∀ p ∈ ps, okPt p = true), .ite ((ps.drop k.toNat).all (mvOk i j)) (.leaf (.exit 0) [.int .i64 c, .unk] [[.int .i64 z1, .nilS, .int .i64 z2, .int .i64 z3, .int .i64 z4, .int .i64 z5, .int .i64 z6, .int .i64 z7], [.int .i64 a1, .own tPitch (qs ++ (ps.drop k.toNat).map (mvP i j)), .int .i64 b1, .int .i64 b2, .int .i64 b3, .int .i64 b4, .int .i64 b5, .int .i64 b6]]) (.leaf .ret [.int .i64 2, .unk] [[.int .i64 0, .nilS, .int .i64 0, .int .i64 0, .int .i64 0, .int .i64 0, .int .i64 0, .int .i64 0], [.unk, .guess True, .unk, .unk, .unk, .unk, .unk, .unk]]))
  | _ => none }
def ct_moved : Ct := ctOf [.s tItem, .s tIv] (fun ((y : tItem.den), ((i : Int), (j : Int)), _) => .p (okI i j = true ∧ (∀ p ∈ (y.2.1 : List tPitch.den), okPt p = true) ∧ (y.2.1 : List tPitch.den).length ≤ 6)) (fun ((y : tItem.den), ((i : Int), (j : Int)), _) => .tup [.agg (enc tItem (movedV i j y).1), .int .i64 (movedV i j y).2])
set_option maxHeartbeats 1000000 in
theorem loop_moved_0 : LoopSat Try.prog Try.f118.ntmps (loopAt Try.f118 0) ann_moved_0 := by
  refine loopSat_of (C := C_Hc_9) (L := (addL (firstId (loopAt Try.f118 0)) ann_moved_0 noL)) (wr := false) mixedOk C_Hc_9_ok (loopsIn0 (by kernel_rfl)) (fun d => match d.same, d.vals with | [_, _, _, _, .int _ n], [_, .int _ k] => (n - k).toNat | _, _ => 0) fun d p t hG hp => ?_
  simp only [ann_moved_0] at hG
  split at hG
  rotate_left
  · simp at hG
  rename_i ps n i j c k z1 z2 z3 z4 z5 z6 z7 a1 qs b1 b2 b3 b4 b5 b6
  simp only [Option.some.injEq, Prod.mk.injEq] at hG
  obtain ⟨rfl, rfl⟩ := hG
  have htree : exRound Try.prog C_Hc_9 false (addL (firstId (loopAt Try.f118 0)) ann_moved_0 noL) Try.f118.ntmps ann_moved_0 (loopAt Try.f118 0) ⟨[.ptr 3 0, .ptr 4 0, .ptr 6 0, .view tPitch ps, .int .i64 n], [.box [.int .i64 i, .int .i64 j]], [.int .i64 c, .int .i64 k], [[.int .i64 z1, .nilS, .int .i64 z2, .int .i64 z3, .int .i64 z4, .int .i64 z5, .int .i64 z6, .int .i64 z7], [.int .i64 a1, .own tPitch qs, .int .i64 b1, .int .i64 b2, .int .i64 b3, .int .i64 b4, .int .i64 b5, .int .i64 b6]]⟩ = .ite (decide (k < n)) (.need ((0 : Int) ≤ k ∧ k < (↑ps.length : Int)) (.ite ((moveF (getT tPitch ps k).fst (getT tPitch ps k).snd.fst (getT tPitch ps k).snd.snd i j).snd != (0 : Int)) (.leaf (.ret, ⟨[.ptr 3 0, .ptr 4 0, .ptr 6 0, .view (I64.pair (I64.pair I64)) (ps), .int .i64 (n)], [.box [.int .i64 (i), .int .i64 (j)]], [.int .i64 ((moveF (getT tPitch ps k).fst (getT tPitch ps k).snd.fst (getT tPitch ps k).snd.snd i j).snd), .int .i64 (k)], [[.int .i64 ((0 : Int)), .nilS, .int .i64 ((0 : Int)), .int .i64 ((0 : Int)), .int .i64 ((0 : Int)), .int .i64 ((0 : Int)), .int .i64 ((0 : Int)), .int .i64 ((0 : Int))], [.int .i64 (a1), .own (I64.pair (I64.pair I64)) (qs), .int .i64 (b1), .int .i64 (b2), .int .i64 (b3), .int .i64 (b4), .int .i64 (b5), .int .i64 (b6)]]⟩)) (.need (qs.length + [((moveF (getT tPitch ps k).fst (getT tPitch ps k).snd.fst (getT tPitch ps k).snd.snd i j).fst.fst, (moveF (getT tPitch ps k).fst (getT tPitch ps k).snd.fst (getT tPitch ps k).snd.snd i j).fst.snd.fst, (moveF (getT tPitch ps k).fst (getT tPitch ps k).snd.fst (getT tPitch ps k).snd.snd i j).fst.snd.snd)].length ≤ (16777216 : Nat)) (.need (inK IntKind.i64 (k + (1 : Int))) (.leaf (.normal, ⟨[.ptr 3 0, .ptr 4 0, .ptr 6 0, .view (I64.pair (I64.pair I64)) (ps), .int .i64 (n)], [.box [.int .i64 (i), .int .i64 (j)]], [.int .i64 (c), .int .i64 (k + (1 : Int))], [[.int .i64 (z1), .nilS, .int .i64 (z2), .int .i64 (z3), .int .i64 (z4), .int .i64 (z5), .int .i64 (z6), .int .i64 (z7)], [.int .i64 (a1), .own (I64.pair (I64.pair I64)) (qs ++ [((moveF (getT tPitch ps k).fst (getT tPitch ps k).snd.fst (getT tPitch ps k).snd.snd i j).fst.fst, (moveF (getT tPitch ps k).fst (getT tPitch ps k).snd.fst (getT tPitch ps k).snd.snd i j).fst.snd.fst, (moveF (getT tPitch ps k).fst (getT tPitch ps k).snd.fst (getT tPitch ps k).snd.snd i j).fst.snd.snd)]), .int .i64 (b1), .int .i64 (b2), .int .i64 (b3), .int .i64 (b4), .int .i64 (b5), .int .i64 (b6)]]⟩)))))) (.leaf ((.exit 0), ⟨[.ptr 3 0, .ptr 4 0, .ptr 6 0, .view (I64.pair (I64.pair I64)) (ps), .int .i64 (n)], [.box [.int .i64 (i), .int .i64 (j)]], [.int .i64 (c), .int .i64 (k)], [[.int .i64 (z1), .nilS, .int .i64 (z2), .int .i64 (z3), .int .i64 (z4), .int .i64 (z5), .int .i64 (z6), .int .i64 (z7)], [.int .i64 (a1), .own (I64.pair (I64.pair I64)) (qs), .int .i64 (b1), .int .i64 (b2), .int .i64 (b3), .int .i64 (b4), .int .i64 (b5), .int .i64 (b6)]]⟩)) := by kernel_rfl
  rw [htree]
  clear htree
  replace hp : ((0 ≤ k ∧ k ≤ n) ∧ n = (ps.length : Int) ∧ ps.length ≤ 6 ∧ (qs.length : Int) = k) ∧ okI i j = true ∧ ∀ p ∈ ps, okPt p = true := hp
  obtain ⟨⟨hk, hn, h6, hq⟩, hi, ho⟩ := hp
  simp only [Tree.ok, tyd_inj, packAV, AV.same, AV.same.sameL, encV, encS, enc, inK, Nd.ok, List.headD_cons, List.cons_append, List.nil_append, List.append_nil, true_and, and_true, Bool.true_and, Bool.and_true, loop_next, weakBs_nil, weakBs_cons, weakB_self, weakB_row, weakB_int, weakL_nil, weakL_unk, weakL_guess, isRow_own, isRow_unk, weakL_int, weakL_bool, weakL_str, weakL_own, weakL_view, weakL_nilS, noRow_int, noRow_bool, own_inj, LTree.val, cond_true, cond_false, Prod.mk.injEq, List.cons.injEq, AV.int.injEq, AV.bool.injEq, AV.str.injEq, AV.agg.injEq, ann_moved_0, decide_eq_true_eq, decide_eq_false_iff_not, getT]
  refine ⟨fun ha => ?_, fun ha => ?_⟩
  · have h1 := all_at (mvOk i j) ps tPitch.zero k.toNat (by omega)
    have h2 := map_at (mvP i j) ps tPitch.zero k.toNat (by omega)
    have hp := mem_at ho k.toNat tPitch.zero (by omega)
    have hc := mv_code hp hi
    rw [show (k + 1).toNat = k.toNat + 1 by omega, h1, h2]
    clear h1 h2
    generalize ps.getD k.toNat tPitch.zero = p at *
    cases hm : mvOk i j p
    · rw [hm] at hc
      rw [hc]
      simp only [Bool.false_and, Bool.false_eq_true, if_false]
      repeat' first | apply And.intro | intro _
      all_goals first | omega | assumption | trivial | (simp [Tree.ok, tyd_inj, packAV, AV.same, AV.same.sameL, encV, encS, enc, inK, Nd.ok, List.headD_cons, List.cons_append, List.nil_append, List.append_nil, true_and, and_true, Bool.true_and, Bool.and_true, loop_next, weakBs_nil, weakBs_cons, weakB_self, weakB_row, weakB_int, weakL_nil, weakL_unk, weakL_guess, isRow_own, isRow_unk, weakL_int, weakL_bool, weakL_str, weakL_own, weakL_view, weakL_nilS, noRow_int, noRow_bool, own_inj, LTree.val, cond_true, cond_false, Prod.mk.injEq, List.cons.injEq, AV.int.injEq, AV.bool.injEq, AV.str.injEq, AV.agg.injEq]; done) | (simp_all; done)
    · rw [hm] at hc
      rw [hc]
      simp only [Bool.true_and, if_true, List.append_assoc, List.singleton_append, List.length_append, List.length_cons, List.length_nil]
      repeat' first | apply And.intro | intro _
      all_goals first | omega | assumption | trivial | exact ho _ ‹_› | rfl | (simp_all; done)
  · rw [show k.toNat = ps.length by omega, List.drop_length]
    simp [Tree.ok, tyd_inj, packAV, AV.same, AV.same.sameL, encV, encS, enc, inK, Nd.ok, List.headD_cons, List.cons_append, List.nil_append, List.append_nil, true_and, and_true, Bool.true_and, Bool.and_true, loop_next, weakBs_nil, weakBs_cons, weakB_self, weakB_row, weakB_int, weakL_nil, weakL_unk, weakL_guess, isRow_own, isRow_unk, weakL_int, weakL_bool, weakL_str, weakL_own, weakL_view, weakL_nilS, noRow_int, noRow_bool, own_inj, LTree.val, cond_true, cond_false, Prod.mk.injEq, List.cons.injEq, AV.int.injEq, AV.bool.injEq, AV.str.injEq, AV.agg.injEq]
theorem loops_moved : ∀ c, Try.f118.body = some c → LoopsOk Try.prog (addL (firstId (loopAt Try.f118 0)) ann_moved_0 noL) Try.f118.ntmps c := loopsN fun i hi ann h => by
  have hn : loopN Try.f118 = 1 := by kernel_rfl
  rw [hn] at hi
  exact match i, hi, h with
    | 0, _, h => (Option.some.inj ((show (addL (firstId (loopAt Try.f118 0)) ann_moved_0 noL) (firstId (loopAt Try.f118 0)) = some ann_moved_0 from by kernel_rfl).symm.trans h)) ▸ loop_moved_0
set_option maxHeartbeats 1000000 in
theorem sat_moved : Sat Try.prog 118 ct_moved := by
  refine sat_typedF (C := C_Hc_9) (L := (addL (firstId (loopAt Try.f118 0)) ann_moved_0 noL)) (wr := false) mixedOk Try.func118 C_Hc_9_ok (loops_moved) (fun _ => by first | rfl | (simp [ownsOf, ownsOf.ownsL, enc, encV, encS])) fun x hp => ?_
  obtain ⟨(y : tItem.den), ⟨(i : Int), (j : Int)⟩, _⟩ := x
  replace hp : okI i j = true ∧ (∀ p ∈ (y.2.1 : List tPitch.den), okPt p = true) ∧ (y.2.1 : List tPitch.den).length ≤ 6 := hp
  have htree : exFunc Try.prog C_Hc_9 false (addL (firstId (loopAt Try.f118 0)) ann_moved_0 noL) Try.f118 (encA [.s tItem, .s tIv] (y, (i, j), ())) true = .need ((((0 : Int) ≤ (0 : Int) ∧ (0 : Int) ≤ (↑(List.length y.snd.fst) : Int)) ∧ (↑(List.length y.snd.fst) : Int) = (↑(List.length y.snd.fst) : Int) ∧ List.length y.snd.fst ≤ (6 : Nat) ∧ (↑(0 : Nat) : Int) = (0 : Int)) ∧ okI i j = true ∧ ∀ (p : ((Ty.int IntKind.i64).pair ((Ty.int IntKind.i64).pair (Ty.int IntKind.i64))).den), p ∈ y.snd.fst → okPt p = true) (.ite ((List.drop (Int.toNat (0 : Int)) y.snd.fst).all (mvOk i j)) (.leaf [.agg [.int .i64 (y.fst), .view (I64.pair (I64.pair I64)) ([] ++ List.map (mvP i j) (List.drop (Int.toNat (0 : Int)) y.snd.fst)), .int .i64 (y.snd.snd.fst.fst), .int .i64 (y.snd.snd.fst.snd), .int .i64 (y.snd.snd.snd.fst), .int .i64 (y.snd.snd.snd.snd.fst.fst), .int .i64 (y.snd.snd.snd.snd.fst.snd), .int .i64 (y.snd.snd.snd.snd.snd)], .int .i64 ((0 : Int))]) (.leaf [.agg [.int .i64 ((0 : Int)), .nilS, .int .i64 ((0 : Int)), .int .i64 ((0 : Int)), .int .i64 ((0 : Int)), .int .i64 ((0 : Int)), .int .i64 ((0 : Int)), .int .i64 ((0 : Int))], .int .i64 ((2 : Int))])) := by kernel_rfl
  refine (congrArg (Tree.ok _) htree).mpr ?_
  clear htree
  simp only [Tree.ok, tyd_inj, packAV, AV.same, AV.same.sameL, encV, encS, enc, inK, Nd.ok, List.headD_cons, List.cons_append, List.nil_append, List.append_nil, true_and, and_true, Bool.true_and, Bool.and_true, movedV, Int.toNat_zero, List.drop_zero]
  obtain ⟨h1, h2, h3⟩ := hp
  cases ha : (y.2.1 : List tPitch.den).all (mvOk i j)
  all_goals
    simp only [Bool.false_eq_true, if_false, if_true]
    repeat' first | apply And.intro | intro _
    all_goals first | omega | assumption | trivial | exact h2 _ ‹_› | rfl | contradiction | (simp_all; done)
def C_Hc_10 : FuncId → Option Ct := addC 118 ct_moved C_Hc_9
theorem C_Hc_10_ok : COk Try.prog C_Hc_10 := addC_ok C_Hc_9_ok sat_moved
theorem set_take {α : Type} (l : List α) (k : Nat) (e : α) (h : k < l.length) : (l.set k e).take (k + 1) = l.take k ++ [e] := by
  rw [List.take_set, List.take_succ_eq_append_getElem h, List.set_append_right _ _ (by simp; omega)]
  simp [show k - min k l.length = 0 by omega]
theorem set_drop {α : Type} (l : List α) (k : Nat) (e : α) : (l.set k e).drop (k + 1) = l.drop (k + 1) := by
  rw [List.drop_set, if_pos (by omega)]
theorem mem_set {α : Type} {p : α → Prop} {l : List α} {k : Nat} {e : α} (h : ∀ y ∈ l, p y) (he : p e) : ∀ y ∈ l.set k e, p y := fun y hy => by
  rcases List.mem_or_eq_of_mem_set hy with hy | rfl
  · exact h y hy
  · exact he
theorem drop_at {α : Type} (l : List α) (z : α) (k : Nat) (h : k < l.length) : l.drop k = l.getD k z :: l.drop (k + 1) := by
  rw [List.drop_eq_getElem_cons h, getD_lt _ _ _ h]
theorem gd_mvIt {i j : Int} {y : It} (h : gdI y) : gdI (mvIt i j y) := by
  refine ⟨h.1, h.2, fun p hp => ?_, by simp only [mvIt, List.length_map]; exact h.4⟩
  simp only [mvIt, List.mem_map] at hp
  obtain ⟨q, _, rfl⟩ := hp
  exact mvP_ok _ _ _
theorem movedV_eq (i j : Int) (y : It) : movedV i j y = if okIt i j y = true then (mvIt i j y, 0) else (tItem.zero, 2) := rfl
theorem flat_at (l : Its) (i : Nat) (h : i < l.length) : flatR (l.drop i) = if grpB (l.getD i tItem.zero) = true then (repL (mulB (l.getD i tItem.zero)).toNat (mvL (l.getD i tItem.zero) (flatR ((l.drop (i + 1)).take (szN (l.getD i tItem.zero)))).1).1 ++ (flatR (l.drop (i + 1 + szN (l.getD i tItem.zero)))).1, (flatR ((l.drop (i + 1)).take (szN (l.getD i tItem.zero)))).2 && ((mvL (l.getD i tItem.zero) (flatR ((l.drop (i + 1)).take (szN (l.getD i tItem.zero)))).1).2 && (flatR (l.drop (i + 1 + szN (l.getD i tItem.zero)))).2)) else ((l.getD i tItem.zero) :: (flatR (l.drop (i + 1))).1, (flatR (l.drop (i + 1))).2) := itR_at _ _ _ l i h
theorem flatV_eq (l : Its) : flatV l = if (flatR l).2 = true then ((flatR l).1, 0) else ([], 2) := rfl
theorem mvL_five {k : Int} {ps : List tPitch.den} {a b v m1 m2 z : Int} (h : k = 5) (l : Its) : mvL (k, ps, (a, b), v, (m1, m2), z) l = (l.map (mvIt m1 m2), l.all (okIt m1 m2)) := by
  unfold mvL
  rw [if_pos h]; rfl
theorem mvL_not {k : Int} {ps : List tPitch.den} {a b v m1 m2 z : Int} (h : ¬ k = 5) (l : Its) : mvL (k, ps, (a, b), v, (m1, m2), z) l = (l, true) := by
  unfold mvL
  rw [if_neg h]
theorem repL_step (n r : Int) (h : r < n) (l : Its) : repL (n - r).toNat l = l ++ repL (n - (r + 1)).toNat l := by
  rw [show (n - r).toNat = (n - (r + 1)).toNat + 1 by omega, repL_succ]

def C_Hc : FuncId → Option Ct := C_Hc_10
theorem C_Hc_ok : COk Try.prog C_Hc := C_Hc_10_ok
end Go.Proofs.Ytemlpimibhijoaa
