/- Contracts: tempo maps changed and joined; the laws. Conditions: as each says. -/
import Derived.Test.YtapfocpnpmagfaaFk
import Derived.Test.YtapfocpnpmagfaaGc
import Derived.Test.YtapfocpnpmagfaaGdL
set_option linter.unusedSimpArgs false
set_option linter.unusedVariables false
namespace Go.Proofs.Ytapfocpnpmagfaa
open Go.RowKit Sx
set_option maxRecDepth 100000
theorem heldR_mark2 {α : Type} [DecidableEq α] (f : Int → α) (s : Int) (n : Nat) (k : Int) : heldR f s (rowMark f s n k) k = k + s * (n : Int) := by
  simp [heldR, rowMark_length]
def C_GdB : FuncId → Option Ct := addC 110 ct_markTempoS (addC 111 ct_heldTempoS C_Gc)
theorem C_GdB_ok : COk Try.prog C_GdB := addC_ok (addC_ok C_Gc_ok sat_heldTempoS) sat_markTempoS
def ct_markTempoMap : Ct := ctOfW [.os qTempo, .v (.int .i64)] (fun ((ys : List tTempo.den), (k : Int), _) => .p (ys.length ≤ 16777216 ∧ (0 ≤ k ∧ k ≤ 1000000000000))) (fun ((ys : List tTempo.den), (k : Int), _) => .int .i64 (k + 3 * (ys.length : Int))) (fun ((ys : List tTempo.den), (k : Int), _) => ⟨tTempo, rowMark mkTempoV 3 ys.length k⟩)
set_option maxHeartbeats 1000000 in
theorem sat_markTempoMap : Sat Try.prog 55 ct_markTempoMap := by
  refine sat_typedW (C := C_GdB) (L := noL) (wr := false) mixedOk Try.func55 C_GdB_ok (loops0 (by kernel_rfl)) (fun _ => rfl) fun x hp => ?_
  obtain ⟨(ys : List tTempo.den), (k : Int), _⟩ := x
  replace hp : ys.length ≤ 16777216 ∧ (0 ≤ k ∧ k ≤ 1000000000000) := hp
  have htree : exFuncW Try.prog C_GdB false noL Try.f55 true (rowed.rowedL BR (encA [.os qTempo, .v (.int .i64)] (ys, k, ()))) ⟨tTempo, ys⟩ = .need (ys.length ≤ (16777216 : Nat) ∧ (0 : Int) ≤ k ∧ k ≤ (1000000000000 : Int)) (.leaf ([.int .i64 (k + (3 : Int) * (↑ys.length : Int))], some ⟨tFrac.pair I64, rowMark mkTempoV (3 : Int) ys.length k⟩)) := by kernel_rfl
  refine (congrArg (Tree.ok _) htree).mpr ?_
  clear htree
  simp only [Tree.ok, packAV, AV.same, AV.same.sameL, encV, encS, enc, inK, Nd.ok, List.headD_cons, List.cons_append, List.nil_append, List.append_nil, true_and, and_true, Bool.true_and, Bool.and_true]
  repeat' first | apply And.intro | intro _
  all_goals first | omega | trivial | assumption
def C_Gd_1 : FuncId → Option Ct := addC 55 ct_markTempoMap C_GdB
theorem C_Gd_1_ok : COk Try.prog C_Gd_1 := addC_ok C_GdB_ok sat_markTempoMap
def ct_heldTempoMap : Ct := ctOf [.s qTempo, .v (.int .i64)] (fun ((ys : List tTempo.den), (k : Int), _) => .p (ys.length ≤ 16777216 ∧ (0 ≤ k ∧ k ≤ 1000000000000))) (fun ((ys : List tTempo.den), (k : Int), _) => .int .i64 (heldR mkTempoV 3 ys k))
set_option maxHeartbeats 1000000 in
theorem sat_heldTempoMap : Sat Try.prog 56 ct_heldTempoMap := by
  refine sat_typed (C := C_Gd_1) (L := noL) (wr := false) mixedOk Try.func56 C_Gd_1_ok (loops0 (by kernel_rfl)) (fun _ => by first | rfl | (simp [ownsOf, ownsOf.ownsL, enc, encV, encS])) fun x hp => ?_
  obtain ⟨(ys : List tTempo.den), (k : Int), _⟩ := x
  replace hp : ys.length ≤ 16777216 ∧ (0 ≤ k ∧ k ≤ 1000000000000) := hp
  have htree : exFunc Try.prog C_Gd_1 false noL Try.f56 (encA [.s qTempo, .v (.int .i64)] (ys, k, ())) = .need (ys.length ≤ (16777216 : Nat) ∧ (0 : Int) ≤ k ∧ k ≤ (1000000000000 : Int)) (.ite (decide (heldR mkTempoV (3 : Int) ys k < (0 : Int))) (.leaf [.int .i64 ((-1 : Int))]) (.leaf [.int .i64 (heldR mkTempoV (3 : Int) ys k)])) := by kernel_rfl
  refine (congrArg (Tree.ok _) htree).mpr ?_
  clear htree
  simp only [Tree.ok, packAV, AV.same, AV.same.sameL, encV, encS, enc, inK, Nd.ok, List.headD_cons, List.cons_append, List.nil_append, List.append_nil, true_and, and_true, Bool.true_and, Bool.and_true]
  repeat' first | apply And.intro | intro _
  all_goals first | omega | trivial | assumption | grind [heldR]
def C_Gd_2 : FuncId → Option Ct := addC 56 ct_heldTempoMap C_Gd_1
theorem C_Gd_2_ok : COk Try.prog C_Gd_2 := addC_ok C_Gd_1_ok sat_heldTempoMap
def ct_toldTempos : Ct := ctOfM [.os qTempo] (fun ((l : List tTempo.den), _) => .p (l.length ≤ 16777216)) (fun ((l : List tTempo.den), _) => .tup [.agg [.own tTempo (tendF l).1], .int .i64 (tendF l).2])
set_option maxHeartbeats 1000000 in
theorem sat_toldTempos : Sat Try.prog 109 ct_toldTempos := by
  refine sat_typedM (C := C_Gd_2) (L := noL) (wr := false) mixedOk Try.func109 C_Gd_2_ok (loops0 (by kernel_rfl)) (fun _ => ⟨rfl, by first | rfl | (simp [ownsOf, ownsOf.ownsL, enc, encV, encS])⟩) fun x hp => ?_
  obtain ⟨(l : List tTempo.den), _⟩ := x
  replace hp : l.length ≤ 16777216 := hp
  have htree : exFuncW Try.prog C_Gd_2 false noL Try.f109 false (rowed.rowedL BR (encA [.os qTempo] (l, ()))) ⟨tTempo, l⟩ = .ite (decide ((8 : Int) < (↑l.length : Int))) (.leaf ([.agg [.nilS], .int .i64 ((5 : Int))], none)) (.need ((↑l.length : Int) ≤ (9223372036854775807 : Int)) (.ite (!tmapF l) (.leaf ([.agg [.nilS], .int .i64 ((2 : Int))], none)) (.leaf ([.agg [.own (tFrac.pair I64) (l)], .int .i64 ((0 : Int))], none)))) := by kernel_rfl
  refine (congrArg (Tree.ok _) htree).mpr ?_
  clear htree
  simp only [Tree.ok, packAV, AV.same, AV.same.sameL, encV, encS, enc, inK, Nd.ok, List.headD_cons, List.cons_append, List.nil_append, List.append_nil, true_and, and_true, Bool.true_and, Bool.and_true, tendF]
  by_cases h : 8 < l.length
  · simp only [if_pos h]
    repeat' first | apply And.intro | intro _
    all_goals first | omega | trivial | (simp_all; done) | (simp_all; omega)
  · simp only [if_neg h]
    cases ht : tmapF l
    · simp
      repeat' first | apply And.intro | intro _
      all_goals first | omega | trivial | (simp_all; done) | (simp_all; omega)
    · simp
      repeat' first | apply And.intro | intro _
      all_goals first | omega | trivial | (simp_all; done) | (simp_all; omega)
def C_Gd_3 : FuncId → Option Ct := addC 109 ct_toldTempos C_Gd_2
theorem C_Gd_3_ok : COk Try.prog C_Gd_3 := addC_ok C_Gd_2_ok sat_toldTempos
def ct_l17End : Ct := ctOfM [.ov qTempo] (fun ((l : List tTempo.den), _) => .p (l.length ≤ 16777216)) (fun ((l : List tTempo.den), _) => .tup [.agg [.own tTempo (tendF l).1], .int .i64 (tendF l).2])
set_option maxHeartbeats 1000000 in
theorem sat_l17End : Sat Try.prog 108 ct_l17End := by
  refine sat_typedM (C := C_Gd_3) (L := noL) (wr := false) mixedOk Try.func108 C_Gd_3_ok (loops0 (by kernel_rfl)) (fun _ => ⟨rfl, by first | rfl | (simp [ownsOf, ownsOf.ownsL, enc, encV, encS])⟩) fun x hp => ?_
  obtain ⟨(l : List tTempo.den), _⟩ := x
  replace hp : l.length ≤ 16777216 := hp
  have htree : exFuncW Try.prog C_Gd_3 false noL Try.f108 false (rowed.rowedL BR (encA [.ov qTempo] (l, ()))) ⟨tTempo, l⟩ = .ite (decide ((8 : Int) < (↑l.length : Int))) (.leaf ([.agg [.nilS], .int .i64 ((5 : Int))], none)) (.need ((↑l.length : Int) ≤ (9223372036854775807 : Int)) (.ite (!tmapF l) (.leaf ([.agg [.nilS], .int .i64 ((2 : Int))], none)) (.leaf ([.agg [.own (tFrac.pair I64) (l)], .int .i64 ((0 : Int))], none)))) := by kernel_rfl
  refine (congrArg (Tree.ok _) htree).mpr ?_
  clear htree
  simp only [Tree.ok, packAV, AV.same, AV.same.sameL, encV, encS, enc, inK, Nd.ok, List.headD_cons, List.cons_append, List.nil_append, List.append_nil, true_and, and_true, Bool.true_and, Bool.and_true, tendF]
  by_cases h : 8 < l.length
  · simp only [if_pos h]
    repeat' first | apply And.intro | intro _
    all_goals first | omega | trivial | (simp_all; done) | (simp_all; omega)
  · simp only [if_neg h]
    cases ht : tmapF l
    · simp
      repeat' first | apply And.intro | intro _
      all_goals first | omega | trivial | (simp_all; done) | (simp_all; omega)
    · simp
      repeat' first | apply And.intro | intro _
      all_goals first | omega | trivial | (simp_all; done) | (simp_all; omega)
def C_Gd_4 : FuncId → Option Ct := addC 108 ct_l17End C_Gd_3
theorem C_Gd_4_ok : COk Try.prog C_Gd_4 := addC_ok C_Gd_3_ok sat_l17End
def ann_l17Put_0 : LAnn := { sameS := [0, 3], modS := [5, 6, 7], sameH := [3], modH := [], base := 900000, nilE := [], nilB := [], G := fun
  | ⟨[.view (.pair (.pair (.int .i64) (.int .i64)) (.int .i64)) ts, .ptr 3 0], [.box [.int .i64 u, .int .i64 v, .int .i64 s]], [.own (.pair (.pair (.int .i64) (.int .i64)) (.int .i64)) out, .bool d, .int .i64 i], []⟩ => some (.p ((0 ≤ i ∧ i ≤ (ts.length : Int)) ∧ okF u v = true ∧ (∀ k, k < ts.length → okF (tAt ts k).1.1 (tAt ts k).1.2 = true) ∧ ts.length ≤ 8 ∧ (out.length : Int) ≤ 2 * i), .leaf (.exit 0) [.own tTempo (out ++ putM (ts.drop i.toNat) u v s d), .bool (putD (ts.drop i.toNat) u v d), .unk] [])
  | _ => none }
def ct_l17Put : Ct := ctOf [.v qTempo, .s tTempo] (fun ((l : List tTempo.den), (((u : Int), (v : Int)), (s : Int)), _) => .p (l.length ≤ 8 ∧ okF u v = true ∧ ∀ k, k < l.length → okF (tAt l k).1.1 (tAt l k).1.2 = true)) (fun ((l : List tTempo.den), (((u : Int), (v : Int)), (s : Int)), _) => .own tTempo (putL l u v s false))
set_option maxHeartbeats 1000000 in
theorem loop_l17Put_0 : LoopSat Try.prog Try.f112.ntmps (loopAt Try.f112 0) ann_l17Put_0 := by
  refine loopSat_of (C := C_Gd_4) (L := (addL (firstId (loopAt Try.f112 0)) ann_l17Put_0 noL)) (wr := false) mixedOk C_Gd_4_ok (loopsIn0 (by kernel_rfl)) (fun d => match d.same, d.vals with | [.view _ ts, _], [_, _, .int _ i] => ((ts.length : Int) - i).toNat | _, _ => 0) fun d p t hG hp => ?_
  simp only [ann_l17Put_0] at hG
  split at hG
  rotate_left
  · simp at hG
  rename_i ts u v s out d i
  simp only [Option.some.injEq, Prod.mk.injEq] at hG
  obtain ⟨rfl, rfl⟩ := hG
  have htree : exRound Try.prog C_Gd_4 false (addL (firstId (loopAt Try.f112 0)) ann_l17Put_0 noL) Try.f112.ntmps ann_l17Put_0 (loopAt Try.f112 0) ⟨[.view tTempo ts, .ptr 3 0], [.box [.int .i64 u, .int .i64 v, .int .i64 s]], [.own tTempo out, .bool d, .int .i64 i], []⟩ = .ite (decide (i < (↑ts.length : Int))) (.need ((0 : Int) ≤ i ∧ i < (↑ts.length : Int)) (.need ((((1 : Int) ≤ (getT tTempo ts i).fst.snd ∧ (getT tTempo ts i).fst.snd ≤ (1000000 : Int)) ∧ (-1000000000 : Int) ≤ (getT tTempo ts i).fst.fst ∧ (getT tTempo ts i).fst.fst ≤ (1000000000 : Int)) ∧ ((1 : Int) ≤ v ∧ v ≤ (1000000 : Int)) ∧ (-1000000000 : Int) ≤ u ∧ u ≤ (1000000000 : Int)) (.ite (decide ((0 : Int) ≤ cmpF (getT tTempo ts i).fst.fst (getT tTempo ts i).fst.snd u v)) (.ite (!d) (.need (out.length + [((u, v), s)].length ≤ (16777216 : Nat)) (.ite (cmpF (getT tTempo ts i).fst.fst (getT tTempo ts i).fst.snd u v != (0 : Int)) (.need ((0 : Int) ≤ i ∧ i < (↑ts.length : Int)) (.need ((out ++ [((u, v), s)]).length + [(((getT tTempo ts i).fst.fst, (getT tTempo ts i).fst.snd), (getT tTempo ts i).snd)].length ≤ (16777216 : Nat)) (.need (inK IntKind.i64 (i + (1 : Int))) (.leaf (.normal, ⟨[.view (tFrac.pair I64) (ts), .ptr 3 0], [.box [.int .i64 (u), .int .i64 (v), .int .i64 (s)]], [.own (tFrac.pair I64) (out ++ [((u, v), s)] ++ [(((getT tTempo ts i).fst.fst, (getT tTempo ts i).fst.snd), (getT tTempo ts i).snd)]), .bool (true), .int .i64 (i + (1 : Int))], []⟩))))) (.need (inK IntKind.i64 (i + (1 : Int))) (.leaf (.normal, ⟨[.view (tFrac.pair I64) (ts), .ptr 3 0], [.box [.int .i64 (u), .int .i64 (v), .int .i64 (s)]], [.own (tFrac.pair I64) (out ++ [((u, v), s)]), .bool (true), .int .i64 (i + (1 : Int))], []⟩))))) (.ite (cmpF (getT tTempo ts i).fst.fst (getT tTempo ts i).fst.snd u v != (0 : Int)) (.need ((0 : Int) ≤ i ∧ i < (↑ts.length : Int)) (.need (out.length + [(((getT tTempo ts i).fst.fst, (getT tTempo ts i).fst.snd), (getT tTempo ts i).snd)].length ≤ (16777216 : Nat)) (.need (inK IntKind.i64 (i + (1 : Int))) (.leaf (.normal, ⟨[.view (tFrac.pair I64) (ts), .ptr 3 0], [.box [.int .i64 (u), .int .i64 (v), .int .i64 (s)]], [.own (tFrac.pair I64) (out ++ [(((getT tTempo ts i).fst.fst, (getT tTempo ts i).fst.snd), (getT tTempo ts i).snd)]), .bool (d), .int .i64 (i + (1 : Int))], []⟩))))) (.need (inK IntKind.i64 (i + (1 : Int))) (.leaf (.normal, ⟨[.view (tFrac.pair I64) (ts), .ptr 3 0], [.box [.int .i64 (u), .int .i64 (v), .int .i64 (s)]], [.own (tFrac.pair I64) (out), .bool (d), .int .i64 (i + (1 : Int))], []⟩))))) (.ite (cmpF (getT tTempo ts i).fst.fst (getT tTempo ts i).fst.snd u v != (0 : Int)) (.need ((0 : Int) ≤ i ∧ i < (↑ts.length : Int)) (.need (out.length + [(((getT tTempo ts i).fst.fst, (getT tTempo ts i).fst.snd), (getT tTempo ts i).snd)].length ≤ (16777216 : Nat)) (.need (inK IntKind.i64 (i + (1 : Int))) (.leaf (.normal, ⟨[.view (tFrac.pair I64) (ts), .ptr 3 0], [.box [.int .i64 (u), .int .i64 (v), .int .i64 (s)]], [.own (tFrac.pair I64) (out ++ [(((getT tTempo ts i).fst.fst, (getT tTempo ts i).fst.snd), (getT tTempo ts i).snd)]), .bool (d), .int .i64 (i + (1 : Int))], []⟩))))) (.need (inK IntKind.i64 (i + (1 : Int))) (.leaf (.normal, ⟨[.view (tFrac.pair I64) (ts), .ptr 3 0], [.box [.int .i64 (u), .int .i64 (v), .int .i64 (s)]], [.own (tFrac.pair I64) (out), .bool (d), .int .i64 (i + (1 : Int))], []⟩))))))) (.leaf ((.exit 0), ⟨[.view (tFrac.pair I64) (ts), .ptr 3 0], [.box [.int .i64 (u), .int .i64 (v), .int .i64 (s)]], [.own (tFrac.pair I64) (out), .bool (d), .int .i64 (i)], []⟩)) := by kernel_rfl
  rw [htree]
  clear htree
  replace hp : (0 ≤ i ∧ i ≤ (ts.length : Int)) ∧ okF u v = true ∧ (∀ k, k < ts.length → okF (tAt ts k).1.1 (tAt ts k).1.2 = true) ∧ ts.length ≤ 8 ∧ (out.length : Int) ≤ 2 * i := hp
  have hz : ∀ (k : Int), getT tTempo ts k = tAt ts k.toNat := fun _ => rfl
  obtain ⟨hi, hb, hok, hl, ho⟩ := hp
  simp only [Tree.ok, packAV, AV.same, AV.same.sameL, encV, encS, enc, inK, Nd.ok, List.headD_cons, List.cons_append, List.nil_append, List.append_nil, true_and, and_true, Bool.true_and, Bool.and_true, loop_next, weakBs_nil, weakBs_cons, weakB_self, weakB_row, weakB_int, weakL_nil, weakL_unk, weakL_int, weakL_bool, weakL_str, weakL_own, weakL_view, weakL_nilS, noRow_int, noRow_bool, own_inj, LTree.val, cond_true, cond_false, Prod.mk.injEq, List.cons.injEq, AV.int.injEq, AV.bool.injEq, AV.str.injEq, AV.agg.injEq, ann_l17Put_0, decide_eq_true_eq, decide_eq_false_iff_not, hz]
  refine ⟨fun ha => ?_, fun ha => ?_⟩
  · have g0 := okF_bd (hok i.toNat (by omega))
    have g2 := okF_bd hb
    rw [show (i + 1).toNat = i.toNat + 1 by omega, putM_step ts u v s d i.toNat (by omega), putD_step ts u v d i.toNat (by omega)]
    have hcb : cmpF (tAt ts i.toNat).1.1 (tAt ts i.toNat).1.2 u v = cmpB (tAt ts i.toNat).1 (u, v) := rfl
    simp only [hcb, bne_iff_ne, ne_eq, bne_eq_false_iff_eq, List.length_append, List.length_cons, List.length_nil, List.append_assoc]
    rcases Int.lt_trichotomy (cmpB (tAt ts i.toNat).1 (u, v)) 0 with hc | hc | hc
    · rw [if_neg (by omega), if_pos (by omega), decide_eq_false (show ¬ 0 ≤ cmpB (tAt ts i.toNat).1 (u, v) by omega)]
      cases d
      all_goals
        repeat' first | apply And.intro | intro _
        all_goals first | omega | exact hok _ ‹_› | assumption | trivial | rfl | contradiction | exact g0.1.1 | exact g0.1.2 | exact g0.2.1 | exact g0.2.2 | (simp_all; done) | (simp_all; omega)
    · rw [if_neg (show ¬ ¬ cmpB (tAt ts i.toNat).1 (u, v) = 0 by omega), decide_eq_true (show 0 ≤ cmpB (tAt ts i.toNat).1 (u, v) by omega)]
      cases d
      all_goals
        repeat' first | apply And.intro | intro _
        all_goals first | omega | exact hok _ ‹_› | assumption | trivial | rfl | contradiction | exact g0.1.1 | exact g0.1.2 | exact g0.2.1 | exact g0.2.2 | (simp_all; done) | (simp_all; omega)
    · rw [if_pos (show ¬ cmpB (tAt ts i.toNat).1 (u, v) = 0 by omega), decide_eq_true (show 0 ≤ cmpB (tAt ts i.toNat).1 (u, v) by omega)]
      cases d
      all_goals
        repeat' first | apply And.intro | intro _
        all_goals first | omega | exact hok _ ‹_› | assumption | trivial | rfl | contradiction | exact g0.1.1 | exact g0.1.2 | exact g0.2.1 | exact g0.2.2 | (simp_all; done) | (simp_all; omega)
  · rw [show ts.drop i.toNat = [] from List.drop_eq_nil_of_le (by omega)]
    simp [Tree.ok, packAV, AV.same, AV.same.sameL, encV, encS, enc, inK, Nd.ok, List.headD_cons, List.cons_append, List.nil_append, List.append_nil, true_and, and_true, Bool.true_and, Bool.and_true, loop_next, weakBs_nil, weakBs_cons, weakB_self, weakB_row, weakB_int, weakL_nil, weakL_unk, weakL_int, weakL_bool, weakL_str, weakL_own, weakL_view, weakL_nilS, noRow_int, noRow_bool, own_inj, LTree.val, cond_true, cond_false, Prod.mk.injEq, List.cons.injEq, AV.int.injEq, AV.bool.injEq, AV.str.injEq, AV.agg.injEq, putM, putD]
theorem loops_l17Put : ∀ c, Try.f112.body = some c → LoopsOk Try.prog (addL (firstId (loopAt Try.f112 0)) ann_l17Put_0 noL) Try.f112.ntmps c := loopsN fun i hi ann h => by
  have hn : loopN Try.f112 = 1 := by kernel_rfl
  rw [hn] at hi
  exact match i, hi, h with
    | 0, _, h => (Option.some.inj ((show (addL (firstId (loopAt Try.f112 0)) ann_l17Put_0 noL) (firstId (loopAt Try.f112 0)) = some ann_l17Put_0 from by kernel_rfl).symm.trans h)) ▸ loop_l17Put_0
set_option maxHeartbeats 1000000 in
theorem sat_l17Put : Sat Try.prog 112 ct_l17Put := by
  refine sat_typed (C := C_Gd_4) (L := (addL (firstId (loopAt Try.f112 0)) ann_l17Put_0 noL)) (wr := false) mixedOk Try.func112 C_Gd_4_ok loops_l17Put (fun _ => by first | rfl | (simp [ownsOf, ownsOf.ownsL, enc, encV, encS])) fun x hp => ?_
  obtain ⟨(l : List tTempo.den), ⟨⟨(u : Int), (v : Int)⟩, (s : Int)⟩, _⟩ := x
  replace hp : l.length ≤ 8 ∧ okF u v = true ∧ ∀ k, k < l.length → okF (tAt l k).1.1 (tAt l k).1.2 = true := hp
  have htree : exFunc Try.prog C_Gd_4 false (addL (firstId (loopAt Try.f112 0)) ann_l17Put_0 noL) Try.f112 (encA [.v qTempo, .s tTempo] (l, ((u, v), s), ())) = .need (((0 : Int) ≤ (0 : Int) ∧ (0 : Int) ≤ (↑l.length : Int)) ∧ okF u v = true ∧ (∀ (k : Nat), k < l.length → okF (tAt l k).fst.fst (tAt l k).fst.snd = true) ∧ l.length ≤ (8 : Nat) ∧ (↑(0 : Nat) : Int) ≤ (2 : Int) * (0 : Int)) (.ite (!putD (List.drop (Int.toNat (0 : Int)) l) u v false) (.need (([] ++ putM (List.drop (Int.toNat (0 : Int)) l) u v s false).length + [((u, v), s)].length ≤ (16777216 : Nat)) (.leaf [.own (tFrac.pair I64) ([] ++ putM (List.drop (Int.toNat (0 : Int)) l) u v s false ++ [((u, v), s)])])) (.leaf [.own (tFrac.pair I64) ([] ++ putM (List.drop (Int.toNat (0 : Int)) l) u v s false)])) := by kernel_rfl
  refine (congrArg (Tree.ok _) htree).mpr ?_
  clear htree
  have hq := putM_len l u v s false
  have hr := putL_eq l u v s false
  simp only [Tree.ok, packAV, AV.same, AV.same.sameL, encV, encS, enc, inK, Nd.ok, List.headD_cons, List.cons_append, List.nil_append, List.append_nil, true_and, and_true, Bool.true_and, Bool.and_true, Int.toNat_zero, List.drop_zero, List.nil_append]
  rw [hr]
  cases hd : putD l u v false
  all_goals
    repeat' first | apply And.intro | intro _
    all_goals first | omega | exact hp.1 | exact hp.2.1 | exact hp.2.2 _ ‹_› | assumption | trivial | rfl | (simp_all; done) | (simp_all; omega)
def C_Gd_5 : FuncId → Option Ct := addC 112 ct_l17Put C_Gd_4
theorem C_Gd_5_ok : COk Try.prog C_Gd_5 := addC_ok C_Gd_4_ok sat_l17Put
def ct_sSetTempo : Ct := ctOf [.s qTempo, .s tFrac, .v (.int .i64)] (fun ((ts : List tTempo.den), ((u : Int), (v : Int)), (s : Int), _) => .p ((ts.length : Int) ≤ 9223372036854775807)) (fun ((ts : List tTempo.den), ((u : Int), (v : Int)), (s : Int), _) => .tup [.agg [.own tTempo (setF ts u v s).1], .int .i64 (setF ts u v s).2])
set_option maxHeartbeats 1000000 in
theorem sat_sSetTempo : Sat Try.prog 57 ct_sSetTempo := by
  refine sat_typed (C := C_Gd_5) (L := noL) (wr := false) mixedOk Try.func57 C_Gd_5_ok (loops0 (by kernel_rfl)) (fun _ => by first | rfl | (simp [ownsOf, ownsOf.ownsL, enc, encV, encS])) fun x hp => ?_
  obtain ⟨(ts : List tTempo.den), ⟨(u : Int), (v : Int)⟩, (s : Int), _⟩ := x
  replace hp : (ts.length : Int) ≤ 9223372036854775807 := hp
  have htree : exFunc Try.prog C_Gd_5 false noL Try.f57 (encA [.s qTempo, .s tFrac, .v (.int .i64)] (ts, (u, v), s, ())) = .need ((↑ts.length : Int) ≤ (9223372036854775807 : Int)) (.ite (askF ts (u, v) != (0 : Int)) (.leaf [.agg [.nilS], .int .i64 (askF ts (u, v))]) (.ite (!inB s (1 : Int) (1000 : Int)) (.leaf [.agg [.nilS], .int .i64 ((2 : Int))]) (.need (ts.length ≤ (8 : Nat) ∧ okF u v = true ∧ ∀ (k : Nat), k < ts.length → okF (tAt ts k).fst.fst (tAt ts k).fst.snd = true) (.need ((putL ts u v s false).length ≤ (16777216 : Nat)) (.leaf [.agg [.own (tFrac.pair I64) ((tendF (putL ts u v s false)).fst)], .int .i64 ((tendF (putL ts u v s false)).snd)]))))) := by kernel_rfl
  refine (congrArg (Tree.ok _) htree).mpr ?_
  clear htree
  simp only [Tree.ok, packAV, AV.same, AV.same.sameL, encV, encS, enc, inK, Nd.ok, List.headD_cons, List.cons_append, List.nil_append, List.append_nil, true_and, and_true, Bool.true_and, Bool.and_true, setF, bne_iff_ne, ne_eq, bne_eq_false_iff_eq]
  by_cases h : askF ts (u, v) = 0
  · obtain ⟨g1, g2, g3⟩ := askF_zero h
    obtain ⟨k1, k2, k3⟩ := tmap_beats g1
    obtain ⟨h1, _, h3, _, h5⟩ := tmap_spec g1
    have hq := putL_len ts u v s false
    have hl := put_law ts u v s (ord_inc h3) (ord_den h3) (okF_bd g2).1.1
    rw [if_neg (by simp [h])]
    cases hs : inB s 1 1000
    · simp
      repeat' first | apply And.intro | intro _
      all_goals first | omega | assumption | trivial | (simp_all; done) | (simp_all; omega)
    · simp only [if_true, ← hl]
      repeat' first | apply And.intro | intro _
      all_goals first | omega | exact g2 | exact k3 _ ‹_› | assumption | trivial | rfl | contradiction | (simp_all; done) | (simp at hq; omega)
  · rw [if_pos h]
    repeat' first | apply And.intro | intro _
    all_goals first | omega | assumption | trivial | rfl | contradiction | (simp_all; done)
def C_Gd_6 : FuncId → Option Ct := addC 57 ct_sSetTempo C_Gd_5
theorem C_Gd_6_ok : COk Try.prog C_Gd_6 := addC_ok C_Gd_5_ok sat_sSetTempo
def ann_iSetTempo_0 : LAnn := { sameS := [3, 4, 6, 9, 10, 32, 33], modS := [7, 34], sameH := [3, 4, 10], modH := [6, 9], base := 900000, nilE := [], nilB := [⟨9, 0, 800000, tTempo⟩], G := fun
  | ⟨[.ptr 3 0, .ptr 4 0, .ptr 6 0, .ptr 9 0, .ptr 10 0, .view (.pair (.pair (.int .i64) (.int .i64)) (.int .i64)) ts, .int .i64 n], [.box [.view (.pair (.pair (.int .i64) (.int .i64)) (.int .i64)) xs], .box [.int .i64 u, .int .i64 v], .box [.int .i64 u2, .int .i64 v2, .int .i64 s]], [.int .i64 c, .int .i64 i], [[.nilS], [.own (.pair (.pair (.int .i64) (.int .i64)) (.int .i64)) out]]⟩ => some (.p ((0 ≤ i ∧ i ≤ n) ∧ n = (ts.length : Int) ∧ okF u v = true ∧ (∀ k, k < ts.length → okF (tAt ts k).1.1 (tAt ts k).1.2 = true) ∧ ts.length ≤ 8 ∧ (out.length : Int) ≤ i), .leaf (.exit 0) [.int .i64 c, .unk] [[.nilS], [.own tTempo (out ++ keepLt (ts.drop i.toNat) u v)]])
  | _ => none }
def ann_iSetTempo_1 : LAnn := { sameS := [4, 6, 9, 57, 58], modS := [7, 59], sameH := [4], modH := [6, 9], base := 950000, nilE := [], nilB := [], G := fun
  | ⟨[.ptr 4 0, .ptr 6 0, .ptr 9 0, .view (.pair (.pair (.int .i64) (.int .i64)) (.int .i64)) ts, .int .i64 n], [.box [.int .i64 u, .int .i64 v]], [.int .i64 c, .int .i64 i], [[.nilS], [.own (.pair (.pair (.int .i64) (.int .i64)) (.int .i64)) out]]⟩ => some (.p ((0 ≤ i ∧ i ≤ n) ∧ n = (ts.length : Int) ∧ okF u v = true ∧ (∀ k, k < ts.length → okF (tAt ts k).1.1 (tAt ts k).1.2 = true) ∧ ts.length ≤ 8 ∧ (out.length : Int) ≤ 9 + i), .leaf (.exit 2) [.int .i64 c, .unk] [[.nilS], [.own tTempo (out ++ keepGt (ts.drop i.toNat) u v)]])
  | _ => none }
def ct_iSetTempo : Ct := ctOf [.s qTempo, .s tFrac, .v (.int .i64)] (fun ((ts : List tTempo.den), ((u : Int), (v : Int)), (s : Int), _) => .p ((ts.length : Int) ≤ 9223372036854775807)) (fun ((ts : List tTempo.den), ((u : Int), (v : Int)), (s : Int), _) => .tup [.agg [.own tTempo (setF ts u v s).1], .int .i64 (setF ts u v s).2])
set_option maxHeartbeats 1000000 in
theorem loop_iSetTempo_1 : LoopSat Try.prog Try.f58.ntmps (loopAt Try.f58 1) ann_iSetTempo_1 := by
  refine loopSat_of (C := C_Gd_6) (L := (addL (firstId (loopAt Try.f58 1)) ann_iSetTempo_1 (addL (firstId (loopAt Try.f58 0)) ann_iSetTempo_0 noL))) (wr := false) mixedOk C_Gd_6_ok (loopsIn0 (by kernel_rfl)) (fun d => match d.same, d.vals with | [_, _, _, _, .int _ n], [_, .int _ i] => (n - i).toNat | _, _ => 0) fun d p t hG hp => ?_
  simp only [ann_iSetTempo_1] at hG
  split at hG
  rotate_left
  · simp at hG
  rename_i ts n u v c i out
  simp only [Option.some.injEq, Prod.mk.injEq] at hG
  obtain ⟨rfl, rfl⟩ := hG
  have htree : exRound Try.prog C_Gd_6 false (addL (firstId (loopAt Try.f58 1)) ann_iSetTempo_1 (addL (firstId (loopAt Try.f58 0)) ann_iSetTempo_0 noL)) Try.f58.ntmps ann_iSetTempo_1 (loopAt Try.f58 1) ⟨[.ptr 4 0, .ptr 6 0, .ptr 9 0, .view tTempo ts, .int .i64 n], [.box [.int .i64 u, .int .i64 v]], [.int .i64 c, .int .i64 i], [[.nilS], [.own tTempo out]]⟩ = .ite (decide (i < n)) (.need ((0 : Int) ≤ i ∧ i < (↑ts.length : Int)) (.need ((((1 : Int) ≤ (getT tTempo ts i).fst.snd ∧ (getT tTempo ts i).fst.snd ≤ (1000000 : Int)) ∧ (-1000000000 : Int) ≤ (getT tTempo ts i).fst.fst ∧ (getT tTempo ts i).fst.fst ≤ (1000000000 : Int)) ∧ ((1 : Int) ≤ v ∧ v ≤ (1000000 : Int)) ∧ (-1000000000 : Int) ≤ u ∧ u ≤ (1000000000 : Int)) (.ite (decide ((0 : Int) < cmpF (getT tTempo ts i).fst.fst (getT tTempo ts i).fst.snd u v)) (.need (out.length + [(((getT tTempo ts i).fst.fst, (getT tTempo ts i).fst.snd), (getT tTempo ts i).snd)].length ≤ (16777216 : Nat)) (.need (inK IntKind.i64 (i + (1 : Int))) (.leaf (.normal, ⟨[.ptr 4 0, .ptr 6 0, .ptr 9 0, .view (tFrac.pair I64) (ts), .int .i64 (n)], [.box [.int .i64 (u), .int .i64 (v)]], [.int .i64 (c), .int .i64 (i + (1 : Int))], [[.nilS], [.own (tFrac.pair I64) (out ++ [(((getT tTempo ts i).fst.fst, (getT tTempo ts i).fst.snd), (getT tTempo ts i).snd)])]]⟩)))) (.need (inK IntKind.i64 (i + (1 : Int))) (.leaf (.normal, ⟨[.ptr 4 0, .ptr 6 0, .ptr 9 0, .view (tFrac.pair I64) (ts), .int .i64 (n)], [.box [.int .i64 (u), .int .i64 (v)]], [.int .i64 (c), .int .i64 (i + (1 : Int))], [[.nilS], [.own (tFrac.pair I64) (out)]]⟩)))))) (.leaf ((.exit 2), ⟨[.ptr 4 0, .ptr 6 0, .ptr 9 0, .view (tFrac.pair I64) (ts), .int .i64 (n)], [.box [.int .i64 (u), .int .i64 (v)]], [.int .i64 (c), .int .i64 (i)], [[.nilS], [.own (tFrac.pair I64) (out)]]⟩)) := by kernel_rfl
  rw [htree]
  clear htree
  replace hp : (0 ≤ i ∧ i ≤ n) ∧ n = (ts.length : Int) ∧ okF u v = true ∧ (∀ k, k < ts.length → okF (tAt ts k).1.1 (tAt ts k).1.2 = true) ∧ ts.length ≤ 8 ∧ (out.length : Int) ≤ 9 + i := hp
  have hz : ∀ (k : Int), getT tTempo ts k = tAt ts k.toNat := fun _ => rfl
  obtain ⟨hi, hn, hb, hok, hl, ho⟩ := hp
  simp only [Tree.ok, packAV, AV.same, AV.same.sameL, encV, encS, enc, inK, Nd.ok, List.headD_cons, List.cons_append, List.nil_append, List.append_nil, true_and, and_true, Bool.true_and, Bool.and_true, loop_next, weakBs_nil, weakBs_cons, weakB_self, weakB_row, weakB_int, weakL_nil, weakL_unk, weakL_int, weakL_bool, weakL_str, weakL_own, weakL_view, weakL_nilS, noRow_int, noRow_bool, own_inj, LTree.val, cond_true, cond_false, Prod.mk.injEq, List.cons.injEq, AV.int.injEq, AV.bool.injEq, AV.str.injEq, AV.agg.injEq, ann_iSetTempo_1, decide_eq_true_eq, decide_eq_false_iff_not, hz]
  refine ⟨fun ha => ?_, fun ha => ?_⟩
  · have g0 := okF_bd (hok i.toNat (by omega))
    have g2 := okF_bd hb
    rw [show (i + 1).toNat = i.toNat + 1 by omega, keepGt_step ts u v i.toNat (by omega)]
    have hcb : cmpF (tAt ts i.toNat).1.1 (tAt ts i.toNat).1.2 u v = cmpB (tAt ts i.toNat).1 (u, v) := rfl
    simp only [hcb, List.length_append, List.length_cons, List.length_nil, List.append_assoc]
    by_cases hc : 0 < cmpB (tAt ts i.toNat).1 (u, v)
    · simp only [if_pos hc]
      repeat' first | apply And.intro | intro _
      all_goals first | omega | exact hok _ ‹_› | assumption | trivial | rfl | contradiction | exact g0.1.1 | exact g0.1.2 | exact g0.2.1 | exact g0.2.2
    · simp only [if_neg hc, List.nil_append]
      repeat' first | apply And.intro | intro _
      all_goals first | omega | exact hok _ ‹_› | assumption | trivial | rfl | contradiction | exact g0.1.1 | exact g0.1.2 | exact g0.2.1 | exact g0.2.2
  · rw [show ts.drop i.toNat = [] from List.drop_eq_nil_of_le (by omega)]
    simp [Tree.ok, packAV, AV.same, AV.same.sameL, encV, encS, enc, inK, Nd.ok, List.headD_cons, List.cons_append, List.nil_append, List.append_nil, true_and, and_true, Bool.true_and, Bool.and_true, loop_next, weakBs_nil, weakBs_cons, weakB_self, weakB_row, weakB_int, weakL_nil, weakL_unk, weakL_int, weakL_bool, weakL_str, weakL_own, weakL_view, weakL_nilS, noRow_int, noRow_bool, own_inj, LTree.val, cond_true, cond_false, Prod.mk.injEq, List.cons.injEq, AV.int.injEq, AV.bool.injEq, AV.str.injEq, AV.agg.injEq, keepGt]
set_option maxHeartbeats 1000000 in
theorem loop_iSetTempo_0 : LoopSat Try.prog Try.f58.ntmps (loopAt Try.f58 0) ann_iSetTempo_0 := by
  refine loopSat_of (C := C_Gd_6) (L := (addL (firstId (loopAt Try.f58 1)) ann_iSetTempo_1 (addL (firstId (loopAt Try.f58 0)) ann_iSetTempo_0 noL))) (wr := false) mixedOk C_Gd_6_ok (loopsIn0 (by kernel_rfl)) (fun d => match d.same, d.vals with | [_, _, _, _, _, _, .int _ n], [_, .int _ i] => (n - i).toNat | _, _ => 0) fun d p t hG hp => ?_
  simp only [ann_iSetTempo_0] at hG
  split at hG
  rotate_left
  · simp at hG
  rename_i ts n xs u v u2 v2 s c i out
  simp only [Option.some.injEq, Prod.mk.injEq] at hG
  obtain ⟨rfl, rfl⟩ := hG
  have htree : exRound Try.prog C_Gd_6 false (addL (firstId (loopAt Try.f58 1)) ann_iSetTempo_1 (addL (firstId (loopAt Try.f58 0)) ann_iSetTempo_0 noL)) Try.f58.ntmps ann_iSetTempo_0 (loopAt Try.f58 0) ⟨[.ptr 3 0, .ptr 4 0, .ptr 6 0, .ptr 9 0, .ptr 10 0, .view tTempo ts, .int .i64 n], [.box [.view tTempo xs], .box [.int .i64 u, .int .i64 v], .box [.int .i64 u2, .int .i64 v2, .int .i64 s]], [.int .i64 c, .int .i64 i], [[.nilS], [.own tTempo out]]⟩ = .ite (decide (i < n)) (.need ((0 : Int) ≤ i ∧ i < (↑ts.length : Int)) (.need ((((1 : Int) ≤ (getT tTempo ts i).fst.snd ∧ (getT tTempo ts i).fst.snd ≤ (1000000 : Int)) ∧ (-1000000000 : Int) ≤ (getT tTempo ts i).fst.fst ∧ (getT tTempo ts i).fst.fst ≤ (1000000000 : Int)) ∧ ((1 : Int) ≤ v ∧ v ≤ (1000000 : Int)) ∧ (-1000000000 : Int) ≤ u ∧ u ≤ (1000000000 : Int)) (.ite (decide (cmpF (getT tTempo ts i).fst.fst (getT tTempo ts i).fst.snd u v < (0 : Int))) (.need (out.length + [(((getT tTempo ts i).fst.fst, (getT tTempo ts i).fst.snd), (getT tTempo ts i).snd)].length ≤ (16777216 : Nat)) (.need (inK IntKind.i64 (i + (1 : Int))) (.leaf (.normal, ⟨[.ptr 3 0, .ptr 4 0, .ptr 6 0, .ptr 9 0, .ptr 10 0, .view (tFrac.pair I64) (ts), .int .i64 (n)], [.box [.view (tFrac.pair I64) (xs)], .box [.int .i64 (u), .int .i64 (v)], .box [.int .i64 (u2), .int .i64 (v2), .int .i64 (s)]], [.int .i64 (c), .int .i64 (i + (1 : Int))], [[.nilS], [.own (tFrac.pair I64) (out ++ [(((getT tTempo ts i).fst.fst, (getT tTempo ts i).fst.snd), (getT tTempo ts i).snd)])]]⟩)))) (.need (inK IntKind.i64 (i + (1 : Int))) (.leaf (.normal, ⟨[.ptr 3 0, .ptr 4 0, .ptr 6 0, .ptr 9 0, .ptr 10 0, .view (tFrac.pair I64) (ts), .int .i64 (n)], [.box [.view (tFrac.pair I64) (xs)], .box [.int .i64 (u), .int .i64 (v)], .box [.int .i64 (u2), .int .i64 (v2), .int .i64 (s)]], [.int .i64 (c), .int .i64 (i + (1 : Int))], [[.nilS], [.own (tFrac.pair I64) (out)]]⟩)))))) (.leaf ((.exit 0), ⟨[.ptr 3 0, .ptr 4 0, .ptr 6 0, .ptr 9 0, .ptr 10 0, .view (tFrac.pair I64) (ts), .int .i64 (n)], [.box [.view (tFrac.pair I64) (xs)], .box [.int .i64 (u), .int .i64 (v)], .box [.int .i64 (u2), .int .i64 (v2), .int .i64 (s)]], [.int .i64 (c), .int .i64 (i)], [[.nilS], [.own (tFrac.pair I64) (out)]]⟩)) := by kernel_rfl
  rw [htree]
  clear htree
  replace hp : (0 ≤ i ∧ i ≤ n) ∧ n = (ts.length : Int) ∧ okF u v = true ∧ (∀ k, k < ts.length → okF (tAt ts k).1.1 (tAt ts k).1.2 = true) ∧ ts.length ≤ 8 ∧ (out.length : Int) ≤ i := hp
  have hz : ∀ (k : Int), getT tTempo ts k = tAt ts k.toNat := fun _ => rfl
  obtain ⟨hi, hn, hb, hok, hl, ho⟩ := hp
  simp only [Tree.ok, packAV, AV.same, AV.same.sameL, encV, encS, enc, inK, Nd.ok, List.headD_cons, List.cons_append, List.nil_append, List.append_nil, true_and, and_true, Bool.true_and, Bool.and_true, loop_next, weakBs_nil, weakBs_cons, weakB_self, weakB_row, weakB_int, weakL_nil, weakL_unk, weakL_int, weakL_bool, weakL_str, weakL_own, weakL_view, weakL_nilS, noRow_int, noRow_bool, own_inj, LTree.val, cond_true, cond_false, Prod.mk.injEq, List.cons.injEq, AV.int.injEq, AV.bool.injEq, AV.str.injEq, AV.agg.injEq, ann_iSetTempo_0, decide_eq_true_eq, decide_eq_false_iff_not, hz]
  refine ⟨fun ha => ?_, fun ha => ?_⟩
  · have g0 := okF_bd (hok i.toNat (by omega))
    have g2 := okF_bd hb
    rw [show (i + 1).toNat = i.toNat + 1 by omega, keepLt_step ts u v i.toNat (by omega)]
    have hcb : cmpF (tAt ts i.toNat).1.1 (tAt ts i.toNat).1.2 u v = cmpB (tAt ts i.toNat).1 (u, v) := rfl
    simp only [hcb, List.length_append, List.length_cons, List.length_nil, List.append_assoc]
    by_cases hc : cmpB (tAt ts i.toNat).1 (u, v) < 0
    · simp only [if_pos hc]
      repeat' first | apply And.intro | intro _
      all_goals first | omega | exact hok _ ‹_› | assumption | trivial | rfl | contradiction | exact g0.1.1 | exact g0.1.2 | exact g0.2.1 | exact g0.2.2
    · simp only [if_neg hc, List.nil_append]
      repeat' first | apply And.intro | intro _
      all_goals first | omega | exact hok _ ‹_› | assumption | trivial | rfl | contradiction | exact g0.1.1 | exact g0.1.2 | exact g0.2.1 | exact g0.2.2
  · rw [show ts.drop i.toNat = [] from List.drop_eq_nil_of_le (by omega)]
    simp [Tree.ok, packAV, AV.same, AV.same.sameL, encV, encS, enc, inK, Nd.ok, List.headD_cons, List.cons_append, List.nil_append, List.append_nil, true_and, and_true, Bool.true_and, Bool.and_true, loop_next, weakBs_nil, weakBs_cons, weakB_self, weakB_row, weakB_int, weakL_nil, weakL_unk, weakL_int, weakL_bool, weakL_str, weakL_own, weakL_view, weakL_nilS, noRow_int, noRow_bool, own_inj, LTree.val, cond_true, cond_false, Prod.mk.injEq, List.cons.injEq, AV.int.injEq, AV.bool.injEq, AV.str.injEq, AV.agg.injEq, keepLt]
theorem loops_iSetTempo : ∀ c, Try.f58.body = some c → LoopsOk Try.prog (addL (firstId (loopAt Try.f58 1)) ann_iSetTempo_1 (addL (firstId (loopAt Try.f58 0)) ann_iSetTempo_0 noL)) Try.f58.ntmps c := loopsN fun i hi ann h => by
  have hn : loopN Try.f58 = 2 := by kernel_rfl
  rw [hn] at hi
  exact match i, hi, h with
    | 0, _, h => (Option.some.inj ((show (addL (firstId (loopAt Try.f58 1)) ann_iSetTempo_1 (addL (firstId (loopAt Try.f58 0)) ann_iSetTempo_0 noL)) (firstId (loopAt Try.f58 0)) = some ann_iSetTempo_0 from by kernel_rfl).symm.trans h)) ▸ loop_iSetTempo_0
    | 1, _, h => (Option.some.inj ((show (addL (firstId (loopAt Try.f58 1)) ann_iSetTempo_1 (addL (firstId (loopAt Try.f58 0)) ann_iSetTempo_0 noL)) (firstId (loopAt Try.f58 1)) = some ann_iSetTempo_1 from by kernel_rfl).symm.trans h)) ▸ loop_iSetTempo_1
set_option maxHeartbeats 1000000 in
theorem sat_iSetTempo : Sat Try.prog 58 ct_iSetTempo := by
  refine sat_typed (C := C_Gd_6) (L := (addL (firstId (loopAt Try.f58 1)) ann_iSetTempo_1 (addL (firstId (loopAt Try.f58 0)) ann_iSetTempo_0 noL))) (wr := false) mixedOk Try.func58 C_Gd_6_ok loops_iSetTempo (fun _ => by first | rfl | (simp [ownsOf, ownsOf.ownsL, enc, encV, encS])) fun x hp => ?_
  obtain ⟨(ts : List tTempo.den), ⟨(u : Int), (v : Int)⟩, (s : Int), _⟩ := x
  replace hp : (ts.length : Int) ≤ 9223372036854775807 := hp
  have htree : exFunc Try.prog C_Gd_6 false (addL (firstId (loopAt Try.f58 1)) ann_iSetTempo_1 (addL (firstId (loopAt Try.f58 0)) ann_iSetTempo_0 noL)) Try.f58 (encA [.s qTempo, .s tFrac, .v (.int .i64)] (ts, (u, v), s, ())) = .need ((↑[ts].length : Int) ≤ (9223372036854775807 : Int) ∧ ∀ (ts_1 : List tTempo.den), ts_1 ∈ [ts] → (↑ts_1.length : Int) ≤ (9223372036854775807 : Int)) (.ite (bcF [ts] (u, v) != (0 : Int)) (.leaf [.agg [.nilS], .int .i64 (bcF [ts] (u, v))]) (.ite (!inB s (1 : Int) (1000 : Int)) (.leaf [.agg [.nilS], .int .i64 ((2 : Int))]) (.need (((0 : Int) ≤ (0 : Int) ∧ (0 : Int) ≤ (↑ts.length : Int)) ∧ (↑ts.length : Int) = (↑ts.length : Int) ∧ okF u v = true ∧ (∀ (k : Nat), k < ts.length → okF (tAt ts k).fst.fst (tAt ts k).fst.snd = true) ∧ ts.length ≤ (8 : Nat) ∧ (↑(0 : Nat) : Int) ≤ (0 : Int)) (.need (([] ++ keepLt (List.drop (Int.toNat (0 : Int)) ts) u v).length + [((u, v), s)].length ≤ (16777216 : Nat)) (.need (((0 : Int) ≤ (0 : Int) ∧ (0 : Int) ≤ (↑ts.length : Int)) ∧ (↑ts.length : Int) = (↑ts.length : Int) ∧ okF u v = true ∧ (∀ (k : Nat), k < ts.length → okF (tAt ts k).fst.fst (tAt ts k).fst.snd = true) ∧ ts.length ≤ (8 : Nat) ∧ (↑([] ++ keepLt (List.drop (Int.toNat (0 : Int)) ts) u v ++ [((u, v), s)]).length : Int) ≤ (9 : Int) + (0 : Int)) (.need (([] ++ keepLt (List.drop (Int.toNat (0 : Int)) ts) u v ++ [((u, v), s)] ++ keepGt (List.drop (Int.toNat (0 : Int)) ts) u v).length ≤ (16777216 : Nat)) (.leaf [.agg [.own (tFrac.pair I64) ((tendF ([] ++ keepLt (List.drop (Int.toNat (0 : Int)) ts) u v ++ [((u, v), s)] ++ keepGt (List.drop (Int.toNat (0 : Int)) ts) u v)).fst)], .int .i64 ((tendF ([] ++ keepLt (List.drop (Int.toNat (0 : Int)) ts) u v ++ [((u, v), s)] ++ keepGt (List.drop (Int.toNat (0 : Int)) ts) u v)).snd)]))))))) := by kernel_rfl
  refine (congrArg (Tree.ok _) htree).mpr ?_
  clear htree
  have hm : ∀ x ∈ ([ts] : List (List tTempo.den)), (x.length : Int) ≤ 9223372036854775807 := fun x hx => by rw [List.mem_singleton] at hx; rw [hx]; exact hp
  have e1 := keepLt_len ts u v
  simp only [Tree.ok, packAV, AV.same, AV.same.sameL, encV, encS, enc, inK, Nd.ok, List.headD_cons, List.cons_append, List.nil_append, List.append_nil, true_and, and_true, Bool.true_and, Bool.and_true, setF, bne_iff_ne, ne_eq, bne_eq_false_iff_eq, Int.toNat_zero, List.drop_zero, List.nil_append, List.length_append, List.length_cons, List.length_nil]
  rw [bcF_one]
  by_cases h : askF ts (u, v) = 0
  · obtain ⟨g1, g2, g3⟩ := askF_zero h
    obtain ⟨k1, k2, k3⟩ := tmap_beats g1
    have e2 := keepGt_len ts u v
    rw [if_neg (by simp [h])]
    cases hs : inB s 1 1000
    · simp
      repeat' first | apply And.intro | intro _
      all_goals first | omega | assumption | trivial | exact hm _ ‹_› | (simp_all; done) | (simp_all; omega)
    · simp only [if_true]
      repeat' first | apply And.intro | intro _
      all_goals first | omega | exact g2 | exact k3 _ ‹_› | assumption | trivial | rfl | contradiction | exact hm _ ‹_› | (simp_all; done)
  · rw [if_pos h]
    repeat' first | apply And.intro | intro _
    all_goals first | omega | assumption | trivial | rfl | contradiction | exact hm _ ‹_› | (simp_all; done)
def C_Gd_7 : FuncId → Option Ct := addC 58 ct_iSetTempo C_Gd_6
theorem C_Gd_7_ok : COk Try.prog C_Gd_7 := addC_ok C_Gd_6_ok sat_iSetTempo
def ann_iJoinTempos_0 : LAnn := { sameS := [4, 5, 6, 9, 25, 26], modS := [7, 27], sameH := [4, 5], modH := [6, 9], base := 900000, nilE := [], nilB := [⟨9, 0, 800000, tTempo⟩], G := fun
  | ⟨[.ptr 4 0, .ptr 5 0, .ptr 6 0, .ptr 9 0, .view (.pair (.pair (.int .i64) (.int .i64)) (.int .i64)) ts, .int .i64 n], [.box [.int .i64 u, .int .i64 v], .box [.view (.pair (.pair (.int .i64) (.int .i64)) (.int .i64)) us]], [.int .i64 c, .int .i64 i], [[.nilS], [.own (.pair (.pair (.int .i64) (.int .i64)) (.int .i64)) out]]⟩ => some (.p ((0 ≤ i ∧ i ≤ n) ∧ n = (ts.length : Int) ∧ okF u v = true ∧ (∀ k, k < ts.length → okF (tAt ts k).1.1 (tAt ts k).1.2 = true) ∧ ts.length ≤ 8 ∧ (out.length : Int) ≤ i), .leaf (.exit 0) [.int .i64 c, .unk] [[.nilS], [.own tTempo (out ++ keepLt (ts.drop i.toNat) u v)]])
  | _ => none }
def ann_iJoinTempos_1 : LAnn := { sameS := [4, 6, 9, 44, 45], modS := [7, 46], sameH := [4], modH := [6, 9], base := 950000, nilE := [], nilB := [], G := fun
  | ⟨[.ptr 4 0, .ptr 6 0, .ptr 9 0, .view (.pair (.pair (.int .i64) (.int .i64)) (.int .i64)) us, .int .i64 n], [.box [.int .i64 u, .int .i64 v]], [.int .i64 c, .int .i64 i], [[.nilS], [.own (.pair (.pair (.int .i64) (.int .i64)) (.int .i64)) out]]⟩ => some (.p ((0 ≤ i ∧ i ≤ n) ∧ n = (us.length : Int) ∧ us.length ≤ 8 ∧ (out.length : Int) ≤ 8 + i), .leaf (.exit 2) [.int .i64 c, .unk] [[.nilS], [.own tTempo (out ++ shiftL (us.drop i.toNat) u v)]])
  | _ => none }
def ct_iJoinTempos : Ct := ctOf [.s qTempo, .s tFrac, .s qTempo] (fun ((ts : List tTempo.den), ((u : Int), (v : Int)), (us : List tTempo.den), _) => .p ((ts.length : Int) ≤ 9223372036854775807 ∧ (us.length : Int) ≤ 9223372036854775807)) (fun ((ts : List tTempo.den), ((u : Int), (v : Int)), (us : List tTempo.den), _) => .tup [.agg [.own tTempo (joinF ts u v us).1], .int .i64 (joinF ts u v us).2])
set_option maxHeartbeats 1000000 in
theorem loop_iJoinTempos_1 : LoopSat Try.prog Try.f54.ntmps (loopAt Try.f54 1) ann_iJoinTempos_1 := by
  refine loopSat_of (C := C_Gd_7) (L := (addL (firstId (loopAt Try.f54 1)) ann_iJoinTempos_1 (addL (firstId (loopAt Try.f54 0)) ann_iJoinTempos_0 noL))) (wr := false) mixedOk C_Gd_7_ok (loopsIn0 (by kernel_rfl)) (fun d => match d.same, d.vals with | [_, _, _, _, .int _ n], [_, .int _ i] => (n - i).toNat | _, _ => 0) fun d p t hG hp => ?_
  simp only [ann_iJoinTempos_1] at hG
  split at hG
  rotate_left
  · simp at hG
  rename_i us n u v c i out
  simp only [Option.some.injEq, Prod.mk.injEq] at hG
  obtain ⟨rfl, rfl⟩ := hG
  have htree : exRound Try.prog C_Gd_7 false (addL (firstId (loopAt Try.f54 1)) ann_iJoinTempos_1 (addL (firstId (loopAt Try.f54 0)) ann_iJoinTempos_0 noL)) Try.f54.ntmps ann_iJoinTempos_1 (loopAt Try.f54 1) ⟨[.ptr 4 0, .ptr 6 0, .ptr 9 0, .view tTempo us, .int .i64 n], [.box [.int .i64 u, .int .i64 v]], [.int .i64 c, .int .i64 i], [[.nilS], [.own tTempo out]]⟩ = .ite (decide (i < n)) (.need ((0 : Int) ≤ i ∧ i < (↑us.length : Int)) (.need (out.length + [(((addF (getT tTempo us i).fst.fst (getT tTempo us i).fst.snd u v).fst.fst, (addF (getT tTempo us i).fst.fst (getT tTempo us i).fst.snd u v).fst.snd), (getT tTempo us i).snd)].length ≤ (16777216 : Nat)) (.need (inK IntKind.i64 (i + (1 : Int))) (.leaf (.normal, ⟨[.ptr 4 0, .ptr 6 0, .ptr 9 0, .view (tFrac.pair I64) (us), .int .i64 (n)], [.box [.int .i64 (u), .int .i64 (v)]], [.int .i64 (c), .int .i64 (i + (1 : Int))], [[.nilS], [.own (tFrac.pair I64) (out ++ [(((addF (getT tTempo us i).fst.fst (getT tTempo us i).fst.snd u v).fst.fst, (addF (getT tTempo us i).fst.fst (getT tTempo us i).fst.snd u v).fst.snd), (getT tTempo us i).snd)])]]⟩))))) (.leaf ((.exit 2), ⟨[.ptr 4 0, .ptr 6 0, .ptr 9 0, .view (tFrac.pair I64) (us), .int .i64 (n)], [.box [.int .i64 (u), .int .i64 (v)]], [.int .i64 (c), .int .i64 (i)], [[.nilS], [.own (tFrac.pair I64) (out)]]⟩)) := by kernel_rfl
  rw [htree]
  clear htree
  replace hp : (0 ≤ i ∧ i ≤ n) ∧ n = (us.length : Int) ∧ us.length ≤ 8 ∧ (out.length : Int) ≤ 8 + i := hp
  have hz : ∀ (k : Int), getT tTempo us k = tAt us k.toNat := fun _ => rfl
  obtain ⟨hi, hn, hl, ho⟩ := hp
  simp only [Tree.ok, packAV, AV.same, AV.same.sameL, encV, encS, enc, inK, Nd.ok, List.headD_cons, List.cons_append, List.nil_append, List.append_nil, true_and, and_true, Bool.true_and, Bool.and_true, loop_next, weakBs_nil, weakBs_cons, weakB_self, weakB_row, weakB_int, weakL_nil, weakL_unk, weakL_int, weakL_bool, weakL_str, weakL_own, weakL_view, weakL_nilS, noRow_int, noRow_bool, own_inj, LTree.val, cond_true, cond_false, Prod.mk.injEq, List.cons.injEq, AV.int.injEq, AV.bool.injEq, AV.str.injEq, AV.agg.injEq, ann_iJoinTempos_1, decide_eq_true_eq, decide_eq_false_iff_not, hz]
  refine ⟨fun ha => ?_, fun ha => ?_⟩
  · rw [show (i + 1).toNat = i.toNat + 1 by omega, shiftL_step us u v i.toNat (by omega)]
    simp only [List.length_append, List.length_cons, List.length_nil, List.append_assoc]
    repeat' first | apply And.intro | intro _
    all_goals first | omega | assumption | trivial | rfl | contradiction
  · rw [show us.drop i.toNat = [] from List.drop_eq_nil_of_le (by omega)]
    simp [Tree.ok, packAV, AV.same, AV.same.sameL, encV, encS, enc, inK, Nd.ok, List.headD_cons, List.cons_append, List.nil_append, List.append_nil, true_and, and_true, Bool.true_and, Bool.and_true, loop_next, weakBs_nil, weakBs_cons, weakB_self, weakB_row, weakB_int, weakL_nil, weakL_unk, weakL_int, weakL_bool, weakL_str, weakL_own, weakL_view, weakL_nilS, noRow_int, noRow_bool, own_inj, LTree.val, cond_true, cond_false, Prod.mk.injEq, List.cons.injEq, AV.int.injEq, AV.bool.injEq, AV.str.injEq, AV.agg.injEq, shiftL]
set_option maxHeartbeats 1000000 in
theorem loop_iJoinTempos_0 : LoopSat Try.prog Try.f54.ntmps (loopAt Try.f54 0) ann_iJoinTempos_0 := by
  refine loopSat_of (C := C_Gd_7) (L := (addL (firstId (loopAt Try.f54 1)) ann_iJoinTempos_1 (addL (firstId (loopAt Try.f54 0)) ann_iJoinTempos_0 noL))) (wr := false) mixedOk C_Gd_7_ok (loopsIn0 (by kernel_rfl)) (fun d => match d.same, d.vals with | [_, _, _, _, _, .int _ n], [_, .int _ i] => (n - i).toNat | _, _ => 0) fun d p t hG hp => ?_
  simp only [ann_iJoinTempos_0] at hG
  split at hG
  rotate_left
  · simp at hG
  rename_i ts n u v us c i out
  simp only [Option.some.injEq, Prod.mk.injEq] at hG
  obtain ⟨rfl, rfl⟩ := hG
  have htree : exRound Try.prog C_Gd_7 false (addL (firstId (loopAt Try.f54 1)) ann_iJoinTempos_1 (addL (firstId (loopAt Try.f54 0)) ann_iJoinTempos_0 noL)) Try.f54.ntmps ann_iJoinTempos_0 (loopAt Try.f54 0) ⟨[.ptr 4 0, .ptr 5 0, .ptr 6 0, .ptr 9 0, .view tTempo ts, .int .i64 n], [.box [.int .i64 u, .int .i64 v], .box [.view tTempo us]], [.int .i64 c, .int .i64 i], [[.nilS], [.own tTempo out]]⟩ = .ite (decide (i < n)) (.need ((0 : Int) ≤ i ∧ i < (↑ts.length : Int)) (.need ((((1 : Int) ≤ (getT tTempo ts i).fst.snd ∧ (getT tTempo ts i).fst.snd ≤ (1000000 : Int)) ∧ (-1000000000 : Int) ≤ (getT tTempo ts i).fst.fst ∧ (getT tTempo ts i).fst.fst ≤ (1000000000 : Int)) ∧ ((1 : Int) ≤ v ∧ v ≤ (1000000 : Int)) ∧ (-1000000000 : Int) ≤ u ∧ u ≤ (1000000000 : Int)) (.ite (decide (cmpF (getT tTempo ts i).fst.fst (getT tTempo ts i).fst.snd u v < (0 : Int))) (.need (out.length + [(((getT tTempo ts i).fst.fst, (getT tTempo ts i).fst.snd), (getT tTempo ts i).snd)].length ≤ (16777216 : Nat)) (.need (inK IntKind.i64 (i + (1 : Int))) (.leaf (.normal, ⟨[.ptr 4 0, .ptr 5 0, .ptr 6 0, .ptr 9 0, .view (tFrac.pair I64) (ts), .int .i64 (n)], [.box [.int .i64 (u), .int .i64 (v)], .box [.view (tFrac.pair I64) (us)]], [.int .i64 (c), .int .i64 (i + (1 : Int))], [[.nilS], [.own (tFrac.pair I64) (out ++ [(((getT tTempo ts i).fst.fst, (getT tTempo ts i).fst.snd), (getT tTempo ts i).snd)])]]⟩)))) (.need (inK IntKind.i64 (i + (1 : Int))) (.leaf (.normal, ⟨[.ptr 4 0, .ptr 5 0, .ptr 6 0, .ptr 9 0, .view (tFrac.pair I64) (ts), .int .i64 (n)], [.box [.int .i64 (u), .int .i64 (v)], .box [.view (tFrac.pair I64) (us)]], [.int .i64 (c), .int .i64 (i + (1 : Int))], [[.nilS], [.own (tFrac.pair I64) (out)]]⟩)))))) (.leaf ((.exit 0), ⟨[.ptr 4 0, .ptr 5 0, .ptr 6 0, .ptr 9 0, .view (tFrac.pair I64) (ts), .int .i64 (n)], [.box [.int .i64 (u), .int .i64 (v)], .box [.view (tFrac.pair I64) (us)]], [.int .i64 (c), .int .i64 (i)], [[.nilS], [.own (tFrac.pair I64) (out)]]⟩)) := by kernel_rfl
  rw [htree]
  clear htree
  replace hp : (0 ≤ i ∧ i ≤ n) ∧ n = (ts.length : Int) ∧ okF u v = true ∧ (∀ k, k < ts.length → okF (tAt ts k).1.1 (tAt ts k).1.2 = true) ∧ ts.length ≤ 8 ∧ (out.length : Int) ≤ i := hp
  have hz : ∀ (k : Int), getT tTempo ts k = tAt ts k.toNat := fun _ => rfl
  obtain ⟨hi, hn, hb, hok, hl, ho⟩ := hp
  simp only [Tree.ok, packAV, AV.same, AV.same.sameL, encV, encS, enc, inK, Nd.ok, List.headD_cons, List.cons_append, List.nil_append, List.append_nil, true_and, and_true, Bool.true_and, Bool.and_true, loop_next, weakBs_nil, weakBs_cons, weakB_self, weakB_row, weakB_int, weakL_nil, weakL_unk, weakL_int, weakL_bool, weakL_str, weakL_own, weakL_view, weakL_nilS, noRow_int, noRow_bool, own_inj, LTree.val, cond_true, cond_false, Prod.mk.injEq, List.cons.injEq, AV.int.injEq, AV.bool.injEq, AV.str.injEq, AV.agg.injEq, ann_iJoinTempos_0, decide_eq_true_eq, decide_eq_false_iff_not, hz]
  refine ⟨fun ha => ?_, fun ha => ?_⟩
  · have g0 := okF_bd (hok i.toNat (by omega))
    have g2 := okF_bd hb
    rw [show (i + 1).toNat = i.toNat + 1 by omega, keepLt_step ts u v i.toNat (by omega)]
    have hcb : cmpF (tAt ts i.toNat).1.1 (tAt ts i.toNat).1.2 u v = cmpB (tAt ts i.toNat).1 (u, v) := rfl
    simp only [hcb, List.length_append, List.length_cons, List.length_nil, List.append_assoc]
    by_cases hc : cmpB (tAt ts i.toNat).1 (u, v) < 0
    · simp only [if_pos hc]
      repeat' first | apply And.intro | intro _
      all_goals first | omega | exact hok _ ‹_› | assumption | trivial | rfl | contradiction | exact g0.1.1 | exact g0.1.2 | exact g0.2.1 | exact g0.2.2
    · simp only [if_neg hc, List.nil_append]
      repeat' first | apply And.intro | intro _
      all_goals first | omega | exact hok _ ‹_› | assumption | trivial | rfl | contradiction | exact g0.1.1 | exact g0.1.2 | exact g0.2.1 | exact g0.2.2
  · rw [show ts.drop i.toNat = [] from List.drop_eq_nil_of_le (by omega)]
    simp [Tree.ok, packAV, AV.same, AV.same.sameL, encV, encS, enc, inK, Nd.ok, List.headD_cons, List.cons_append, List.nil_append, List.append_nil, true_and, and_true, Bool.true_and, Bool.and_true, loop_next, weakBs_nil, weakBs_cons, weakB_self, weakB_row, weakB_int, weakL_nil, weakL_unk, weakL_int, weakL_bool, weakL_str, weakL_own, weakL_view, weakL_nilS, noRow_int, noRow_bool, own_inj, LTree.val, cond_true, cond_false, Prod.mk.injEq, List.cons.injEq, AV.int.injEq, AV.bool.injEq, AV.str.injEq, AV.agg.injEq, keepLt]
theorem loops_iJoinTempos : ∀ c, Try.f54.body = some c → LoopsOk Try.prog (addL (firstId (loopAt Try.f54 1)) ann_iJoinTempos_1 (addL (firstId (loopAt Try.f54 0)) ann_iJoinTempos_0 noL)) Try.f54.ntmps c := loopsN fun i hi ann h => by
  have hn : loopN Try.f54 = 2 := by kernel_rfl
  rw [hn] at hi
  exact match i, hi, h with
    | 0, _, h => (Option.some.inj ((show (addL (firstId (loopAt Try.f54 1)) ann_iJoinTempos_1 (addL (firstId (loopAt Try.f54 0)) ann_iJoinTempos_0 noL)) (firstId (loopAt Try.f54 0)) = some ann_iJoinTempos_0 from by kernel_rfl).symm.trans h)) ▸ loop_iJoinTempos_0
    | 1, _, h => (Option.some.inj ((show (addL (firstId (loopAt Try.f54 1)) ann_iJoinTempos_1 (addL (firstId (loopAt Try.f54 0)) ann_iJoinTempos_0 noL)) (firstId (loopAt Try.f54 1)) = some ann_iJoinTempos_1 from by kernel_rfl).symm.trans h)) ▸ loop_iJoinTempos_1
set_option maxHeartbeats 1000000 in
theorem sat_iJoinTempos : Sat Try.prog 54 ct_iJoinTempos := by
  refine sat_typed (C := C_Gd_7) (L := (addL (firstId (loopAt Try.f54 1)) ann_iJoinTempos_1 (addL (firstId (loopAt Try.f54 0)) ann_iJoinTempos_0 noL))) (wr := false) mixedOk Try.func54 C_Gd_7_ok loops_iJoinTempos (fun _ => by first | rfl | (simp [ownsOf, ownsOf.ownsL, enc, encV, encS])) fun x hp => ?_
  obtain ⟨(ts : List tTempo.den), ⟨(u : Int), (v : Int)⟩, (us : List tTempo.den), _⟩ := x
  replace hp : (ts.length : Int) ≤ 9223372036854775807 ∧ (us.length : Int) ≤ 9223372036854775807 := hp
  have htree : exFunc Try.prog C_Gd_7 false (addL (firstId (loopAt Try.f54 1)) ann_iJoinTempos_1 (addL (firstId (loopAt Try.f54 0)) ann_iJoinTempos_0 noL)) Try.f54 (encA [.s qTempo, .s tFrac, .s qTempo] (ts, (u, v), us, ())) = .need ((↑[ts, us].length : Int) ≤ (9223372036854775807 : Int) ∧ ∀ (ts_1 : List tTempo.den), ts_1 ∈ [ts, us] → (↑ts_1.length : Int) ≤ (9223372036854775807 : Int)) (.ite (bcF [ts, us] (u, v) != (0 : Int)) (.leaf [.agg [.nilS], .int .i64 (bcF [ts, us] (u, v))]) (.need (((0 : Int) ≤ (0 : Int) ∧ (0 : Int) ≤ (↑ts.length : Int)) ∧ (↑ts.length : Int) = (↑ts.length : Int) ∧ okF u v = true ∧ (∀ (k : Nat), k < ts.length → okF (tAt ts k).fst.fst (tAt ts k).fst.snd = true) ∧ ts.length ≤ (8 : Nat) ∧ (↑(0 : Nat) : Int) ≤ (0 : Int)) (.need (((0 : Int) ≤ (0 : Int) ∧ (0 : Int) ≤ (↑us.length : Int)) ∧ (↑us.length : Int) = (↑us.length : Int) ∧ us.length ≤ (8 : Nat) ∧ (↑([] ++ keepLt (List.drop (Int.toNat (0 : Int)) ts) u v).length : Int) ≤ (8 : Int) + (0 : Int)) (.need (([] ++ keepLt (List.drop (Int.toNat (0 : Int)) ts) u v ++ shiftL (List.drop (Int.toNat (0 : Int)) us) u v).length ≤ (16777216 : Nat)) (.leaf [.agg [.own (tFrac.pair I64) ((tendF ([] ++ keepLt (List.drop (Int.toNat (0 : Int)) ts) u v ++ shiftL (List.drop (Int.toNat (0 : Int)) us) u v)).fst)], .int .i64 ((tendF ([] ++ keepLt (List.drop (Int.toNat (0 : Int)) ts) u v ++ shiftL (List.drop (Int.toNat (0 : Int)) us) u v)).snd)]))))) := by kernel_rfl
  refine (congrArg (Tree.ok _) htree).mpr ?_
  clear htree
  have hm : ∀ x ∈ ([ts, us] : List (List tTempo.den)), (x.length : Int) ≤ 9223372036854775807 := fun x hx => by
    simp only [List.mem_cons, List.not_mem_nil, or_false] at hx
    rcases hx with rfl | rfl
    · exact hp.1
    · exact hp.2
  have e1 := keepLt_len ts u v
  have e2 := shiftL_len us u v
  simp only [Tree.ok, packAV, AV.same, AV.same.sameL, encV, encS, enc, inK, Nd.ok, List.headD_cons, List.cons_append, List.nil_append, List.append_nil, true_and, and_true, Bool.true_and, Bool.and_true, joinF, bne_iff_ne, ne_eq, bne_eq_false_iff_eq, Int.toNat_zero, List.drop_zero, List.nil_append, List.length_append, List.length_cons, List.length_nil]
  by_cases h : bcF [ts, us] (u, v) = 0
  · obtain ⟨⟨⟨g1, g1'⟩, g2⟩, g3⟩ := bcF_two h
    obtain ⟨k1, k2, k3⟩ := tmap_beats g1
    obtain ⟨k1', k2', k3'⟩ := tmap_beats g1'
    rw [if_neg (by simp [h])]
    repeat' first | apply And.intro | intro _
    all_goals first | omega | exact g2 | exact k3 _ ‹_› | assumption | trivial | rfl | contradiction | exact hm _ ‹_› | (simp_all; done)
  · rw [if_pos h]
    repeat' first | apply And.intro | intro _
    all_goals first | omega | assumption | trivial | rfl | contradiction | exact hm _ ‹_› | (simp_all; done)
def C_Gd_8 : FuncId → Option Ct := addC 54 ct_iJoinTempos C_Gd_7
theorem C_Gd_8_ok : COk Try.prog C_Gd_8 := addC_ok C_Gd_7_ok sat_iJoinTempos
def ann_sJoinTempos_0 : LAnn := { sameS := [3, 4, 5, 6], modS := [7, 8, 9], sameH := [3, 4, 5], modH := [6], base := 900000, nilE := [], nilB := [], G := fun
  | ⟨[.ptr 3 0, .ptr 4 0, .ptr 5 0, .ptr 6 0], [.box [.view (.pair (.pair (.int .i64) (.int .i64)) (.int .i64)) ts], .box [.int .i64 u, .int .i64 v], .box [.view (.pair (.pair (.int .i64) (.int .i64)) (.int .i64)) us]], [.int .i64 c, .own (.pair (.pair (.int .i64) (.int .i64)) (.int .i64)) out, .int .i64 i], [[.nilS]]⟩ => some (.p ((0 ≤ i ∧ i ≤ (ts.length : Int)) ∧ True ∧ okF u v = true ∧ (∀ k, k < ts.length → okF (tAt ts k).1.1 (tAt ts k).1.2 = true) ∧ ts.length ≤ 8 ∧ (out.length : Int) ≤ i), .leaf (.exit 0) [.int .i64 c, .own tTempo (out ++ keepLt (ts.drop i.toNat) u v), .unk] [[.nilS]])
  | _ => none }
def ann_sJoinTempos_1 : LAnn := { sameS := [4, 5, 6], modS := [7, 8, 10], sameH := [4, 5], modH := [6], base := 950000, nilE := [], nilB := [], G := fun
  | ⟨[.ptr 4 0, .ptr 5 0, .ptr 6 0], [.box [.int .i64 u, .int .i64 v], .box [.view (.pair (.pair (.int .i64) (.int .i64)) (.int .i64)) us]], [.int .i64 c, .own (.pair (.pair (.int .i64) (.int .i64)) (.int .i64)) out, .int .i64 i], [[.nilS]]⟩ => some (.p ((0 ≤ i ∧ i ≤ (us.length : Int)) ∧ True ∧ us.length ≤ 8 ∧ (out.length : Int) ≤ 8 + i), .leaf (.exit 2) [.int .i64 c, .own tTempo (out ++ shiftL (us.drop i.toNat) u v), .unk] [[.nilS]])
  | _ => none }
def ct_sJoinTempos : Ct := ctOf [.s qTempo, .s tFrac, .s qTempo] (fun ((ts : List tTempo.den), ((u : Int), (v : Int)), (us : List tTempo.den), _) => .p ((ts.length : Int) ≤ 9223372036854775807 ∧ (us.length : Int) ≤ 9223372036854775807)) (fun ((ts : List tTempo.den), ((u : Int), (v : Int)), (us : List tTempo.den), _) => .tup [.agg [.own tTempo (joinF ts u v us).1], .int .i64 (joinF ts u v us).2])
set_option maxHeartbeats 1000000 in
theorem loop_sJoinTempos_1 : LoopSat Try.prog Try.f53.ntmps (loopAt Try.f53 1) ann_sJoinTempos_1 := by
  refine loopSat_of (C := C_Gd_8) (L := (addL (firstId (loopAt Try.f53 1)) ann_sJoinTempos_1 (addL (firstId (loopAt Try.f53 0)) ann_sJoinTempos_0 noL))) (wr := false) mixedOk C_Gd_8_ok (loopsIn0 (by kernel_rfl)) (fun d => match d.blk, d.vals with | [_, .box [.view _ us]], [_, _, .int _ i] => ((us.length : Int) - i).toNat | _, _ => 0) fun d p t hG hp => ?_
  simp only [ann_sJoinTempos_1] at hG
  split at hG
  rotate_left
  · simp at hG
  rename_i u v us c out i
  simp only [Option.some.injEq, Prod.mk.injEq] at hG
  obtain ⟨rfl, rfl⟩ := hG
  have htree : exRound Try.prog C_Gd_8 false (addL (firstId (loopAt Try.f53 1)) ann_sJoinTempos_1 (addL (firstId (loopAt Try.f53 0)) ann_sJoinTempos_0 noL)) Try.f53.ntmps ann_sJoinTempos_1 (loopAt Try.f53 1) ⟨[.ptr 4 0, .ptr 5 0, .ptr 6 0], [.box [.int .i64 u, .int .i64 v], .box [.view tTempo us]], [.int .i64 c, .own tTempo out, .int .i64 i], [[.nilS]]⟩ = .ite (decide (i < (↑us.length : Int))) (.need ((0 : Int) ≤ i ∧ i < (↑us.length : Int)) (.need ((0 : Int) ≤ i ∧ i < (↑us.length : Int)) (.need (out.length + [(((addF (getT tTempo us i).fst.fst (getT tTempo us i).fst.snd u v).fst.fst, (addF (getT tTempo us i).fst.fst (getT tTempo us i).fst.snd u v).fst.snd), (getT tTempo us i).snd)].length ≤ (16777216 : Nat)) (.need (inK IntKind.i64 (i + (1 : Int))) (.leaf (.normal, ⟨[.ptr 4 0, .ptr 5 0, .ptr 6 0], [.box [.int .i64 (u), .int .i64 (v)], .box [.view (tFrac.pair I64) (us)]], [.int .i64 (c), .own (tFrac.pair I64) (out ++ [(((addF (getT tTempo us i).fst.fst (getT tTempo us i).fst.snd u v).fst.fst, (addF (getT tTempo us i).fst.fst (getT tTempo us i).fst.snd u v).fst.snd), (getT tTempo us i).snd)]), .int .i64 (i + (1 : Int))], [[.nilS]]⟩)))))) (.leaf ((.exit 2), ⟨[.ptr 4 0, .ptr 5 0, .ptr 6 0], [.box [.int .i64 (u), .int .i64 (v)], .box [.view (tFrac.pair I64) (us)]], [.int .i64 (c), .own (tFrac.pair I64) (out), .int .i64 (i)], [[.nilS]]⟩)) := by kernel_rfl
  rw [htree]
  clear htree
  replace hp : (0 ≤ i ∧ i ≤ (us.length : Int)) ∧ True ∧ us.length ≤ 8 ∧ (out.length : Int) ≤ 8 + i := hp
  have hz : ∀ (k : Int), getT tTempo us k = tAt us k.toNat := fun _ => rfl
  obtain ⟨hi, hn, hl, ho⟩ := hp
  simp only [Tree.ok, packAV, AV.same, AV.same.sameL, encV, encS, enc, inK, Nd.ok, List.headD_cons, List.cons_append, List.nil_append, List.append_nil, true_and, and_true, Bool.true_and, Bool.and_true, loop_next, weakBs_nil, weakBs_cons, weakB_self, weakB_row, weakB_int, weakL_nil, weakL_unk, weakL_int, weakL_bool, weakL_str, weakL_own, weakL_view, weakL_nilS, noRow_int, noRow_bool, own_inj, LTree.val, cond_true, cond_false, Prod.mk.injEq, List.cons.injEq, AV.int.injEq, AV.bool.injEq, AV.str.injEq, AV.agg.injEq, ann_sJoinTempos_1, decide_eq_true_eq, decide_eq_false_iff_not, hz]
  refine ⟨fun ha => ?_, fun ha => ?_⟩
  · rw [show (i + 1).toNat = i.toNat + 1 by omega, shiftL_step us u v i.toNat (by omega)]
    simp only [List.length_append, List.length_cons, List.length_nil, List.append_assoc]
    repeat' first | apply And.intro | intro _
    all_goals first | omega | assumption | trivial | rfl | contradiction
  · rw [show us.drop i.toNat = [] from List.drop_eq_nil_of_le (by omega)]
    simp [Tree.ok, packAV, AV.same, AV.same.sameL, encV, encS, enc, inK, Nd.ok, List.headD_cons, List.cons_append, List.nil_append, List.append_nil, true_and, and_true, Bool.true_and, Bool.and_true, loop_next, weakBs_nil, weakBs_cons, weakB_self, weakB_row, weakB_int, weakL_nil, weakL_unk, weakL_int, weakL_bool, weakL_str, weakL_own, weakL_view, weakL_nilS, noRow_int, noRow_bool, own_inj, LTree.val, cond_true, cond_false, Prod.mk.injEq, List.cons.injEq, AV.int.injEq, AV.bool.injEq, AV.str.injEq, AV.agg.injEq, shiftL]
set_option maxHeartbeats 1000000 in
theorem loop_sJoinTempos_0 : LoopSat Try.prog Try.f53.ntmps (loopAt Try.f53 0) ann_sJoinTempos_0 := by
  refine loopSat_of (C := C_Gd_8) (L := (addL (firstId (loopAt Try.f53 1)) ann_sJoinTempos_1 (addL (firstId (loopAt Try.f53 0)) ann_sJoinTempos_0 noL))) (wr := false) mixedOk C_Gd_8_ok (loopsIn0 (by kernel_rfl)) (fun d => match d.blk, d.vals with | .box [.view _ ts] :: _, [_, _, .int _ i] => ((ts.length : Int) - i).toNat | _, _ => 0) fun d p t hG hp => ?_
  simp only [ann_sJoinTempos_0] at hG
  split at hG
  rotate_left
  · simp at hG
  rename_i ts u v us c out i
  simp only [Option.some.injEq, Prod.mk.injEq] at hG
  obtain ⟨rfl, rfl⟩ := hG
  have htree : exRound Try.prog C_Gd_8 false (addL (firstId (loopAt Try.f53 1)) ann_sJoinTempos_1 (addL (firstId (loopAt Try.f53 0)) ann_sJoinTempos_0 noL)) Try.f53.ntmps ann_sJoinTempos_0 (loopAt Try.f53 0) ⟨[.ptr 3 0, .ptr 4 0, .ptr 5 0, .ptr 6 0], [.box [.view tTempo ts], .box [.int .i64 u, .int .i64 v], .box [.view tTempo us]], [.int .i64 c, .own tTempo out, .int .i64 i], [[.nilS]]⟩ = .ite (decide (i < (↑ts.length : Int))) (.need ((0 : Int) ≤ i ∧ i < (↑ts.length : Int)) (.need ((((1 : Int) ≤ (getT tTempo ts i).fst.snd ∧ (getT tTempo ts i).fst.snd ≤ (1000000 : Int)) ∧ (-1000000000 : Int) ≤ (getT tTempo ts i).fst.fst ∧ (getT tTempo ts i).fst.fst ≤ (1000000000 : Int)) ∧ ((1 : Int) ≤ v ∧ v ≤ (1000000 : Int)) ∧ (-1000000000 : Int) ≤ u ∧ u ≤ (1000000000 : Int)) (.ite (decide (cmpF (getT tTempo ts i).fst.fst (getT tTempo ts i).fst.snd u v < (0 : Int))) (.need ((0 : Int) ≤ i ∧ i < (↑ts.length : Int)) (.need (out.length + [(((getT tTempo ts i).fst.fst, (getT tTempo ts i).fst.snd), (getT tTempo ts i).snd)].length ≤ (16777216 : Nat)) (.need (inK IntKind.i64 (i + (1 : Int))) (.leaf (.normal, ⟨[.ptr 3 0, .ptr 4 0, .ptr 5 0, .ptr 6 0], [.box [.view (tFrac.pair I64) (ts)], .box [.int .i64 (u), .int .i64 (v)], .box [.view (tFrac.pair I64) (us)]], [.int .i64 (c), .own (tFrac.pair I64) (out ++ [(((getT tTempo ts i).fst.fst, (getT tTempo ts i).fst.snd), (getT tTempo ts i).snd)]), .int .i64 (i + (1 : Int))], [[.nilS]]⟩))))) (.need (inK IntKind.i64 (i + (1 : Int))) (.leaf (.normal, ⟨[.ptr 3 0, .ptr 4 0, .ptr 5 0, .ptr 6 0], [.box [.view (tFrac.pair I64) (ts)], .box [.int .i64 (u), .int .i64 (v)], .box [.view (tFrac.pair I64) (us)]], [.int .i64 (c), .own (tFrac.pair I64) (out), .int .i64 (i + (1 : Int))], [[.nilS]]⟩)))))) (.leaf ((.exit 0), ⟨[.ptr 3 0, .ptr 4 0, .ptr 5 0, .ptr 6 0], [.box [.view (tFrac.pair I64) (ts)], .box [.int .i64 (u), .int .i64 (v)], .box [.view (tFrac.pair I64) (us)]], [.int .i64 (c), .own (tFrac.pair I64) (out), .int .i64 (i)], [[.nilS]]⟩)) := by kernel_rfl
  rw [htree]
  clear htree
  replace hp : (0 ≤ i ∧ i ≤ (ts.length : Int)) ∧ True ∧ okF u v = true ∧ (∀ k, k < ts.length → okF (tAt ts k).1.1 (tAt ts k).1.2 = true) ∧ ts.length ≤ 8 ∧ (out.length : Int) ≤ i := hp
  have hz : ∀ (k : Int), getT tTempo ts k = tAt ts k.toNat := fun _ => rfl
  obtain ⟨hi, hn, hb, hok, hl, ho⟩ := hp
  simp only [Tree.ok, packAV, AV.same, AV.same.sameL, encV, encS, enc, inK, Nd.ok, List.headD_cons, List.cons_append, List.nil_append, List.append_nil, true_and, and_true, Bool.true_and, Bool.and_true, loop_next, weakBs_nil, weakBs_cons, weakB_self, weakB_row, weakB_int, weakL_nil, weakL_unk, weakL_int, weakL_bool, weakL_str, weakL_own, weakL_view, weakL_nilS, noRow_int, noRow_bool, own_inj, LTree.val, cond_true, cond_false, Prod.mk.injEq, List.cons.injEq, AV.int.injEq, AV.bool.injEq, AV.str.injEq, AV.agg.injEq, ann_sJoinTempos_0, decide_eq_true_eq, decide_eq_false_iff_not, hz]
  refine ⟨fun ha => ?_, fun ha => ?_⟩
  · have g0 := okF_bd (hok i.toNat (by omega))
    have g2 := okF_bd hb
    rw [show (i + 1).toNat = i.toNat + 1 by omega, keepLt_step ts u v i.toNat (by omega)]
    have hcb : cmpF (tAt ts i.toNat).1.1 (tAt ts i.toNat).1.2 u v = cmpB (tAt ts i.toNat).1 (u, v) := rfl
    simp only [hcb, List.length_append, List.length_cons, List.length_nil, List.append_assoc]
    by_cases hc : cmpB (tAt ts i.toNat).1 (u, v) < 0
    · simp only [if_pos hc]
      repeat' first | apply And.intro | intro _
      all_goals first | omega | exact hok _ ‹_› | assumption | trivial | rfl | contradiction | exact g0.1.1 | exact g0.1.2 | exact g0.2.1 | exact g0.2.2
    · simp only [if_neg hc, List.nil_append]
      repeat' first | apply And.intro | intro _
      all_goals first | omega | exact hok _ ‹_› | assumption | trivial | rfl | contradiction | exact g0.1.1 | exact g0.1.2 | exact g0.2.1 | exact g0.2.2
  · rw [show ts.drop i.toNat = [] from List.drop_eq_nil_of_le (by omega)]
    simp [Tree.ok, packAV, AV.same, AV.same.sameL, encV, encS, enc, inK, Nd.ok, List.headD_cons, List.cons_append, List.nil_append, List.append_nil, true_and, and_true, Bool.true_and, Bool.and_true, loop_next, weakBs_nil, weakBs_cons, weakB_self, weakB_row, weakB_int, weakL_nil, weakL_unk, weakL_int, weakL_bool, weakL_str, weakL_own, weakL_view, weakL_nilS, noRow_int, noRow_bool, own_inj, LTree.val, cond_true, cond_false, Prod.mk.injEq, List.cons.injEq, AV.int.injEq, AV.bool.injEq, AV.str.injEq, AV.agg.injEq, keepLt]
theorem loops_sJoinTempos : ∀ c, Try.f53.body = some c → LoopsOk Try.prog (addL (firstId (loopAt Try.f53 1)) ann_sJoinTempos_1 (addL (firstId (loopAt Try.f53 0)) ann_sJoinTempos_0 noL)) Try.f53.ntmps c := loopsN fun i hi ann h => by
  have hn : loopN Try.f53 = 2 := by kernel_rfl
  rw [hn] at hi
  exact match i, hi, h with
    | 0, _, h => (Option.some.inj ((show (addL (firstId (loopAt Try.f53 1)) ann_sJoinTempos_1 (addL (firstId (loopAt Try.f53 0)) ann_sJoinTempos_0 noL)) (firstId (loopAt Try.f53 0)) = some ann_sJoinTempos_0 from by kernel_rfl).symm.trans h)) ▸ loop_sJoinTempos_0
    | 1, _, h => (Option.some.inj ((show (addL (firstId (loopAt Try.f53 1)) ann_sJoinTempos_1 (addL (firstId (loopAt Try.f53 0)) ann_sJoinTempos_0 noL)) (firstId (loopAt Try.f53 1)) = some ann_sJoinTempos_1 from by kernel_rfl).symm.trans h)) ▸ loop_sJoinTempos_1
set_option maxHeartbeats 1000000 in
theorem sat_sJoinTempos : Sat Try.prog 53 ct_sJoinTempos := by
  refine sat_typed (C := C_Gd_8) (L := (addL (firstId (loopAt Try.f53 1)) ann_sJoinTempos_1 (addL (firstId (loopAt Try.f53 0)) ann_sJoinTempos_0 noL))) (wr := false) mixedOk Try.func53 C_Gd_8_ok loops_sJoinTempos (fun _ => by first | rfl | (simp [ownsOf, ownsOf.ownsL, enc, encV, encS])) fun x hp => ?_
  obtain ⟨(ts : List tTempo.den), ⟨(u : Int), (v : Int)⟩, (us : List tTempo.den), _⟩ := x
  replace hp : (ts.length : Int) ≤ 9223372036854775807 ∧ (us.length : Int) ≤ 9223372036854775807 := hp
  have htree : exFunc Try.prog C_Gd_8 false (addL (firstId (loopAt Try.f53 1)) ann_sJoinTempos_1 (addL (firstId (loopAt Try.f53 0)) ann_sJoinTempos_0 noL)) Try.f53 (encA [.s qTempo, .s tFrac, .s qTempo] (ts, (u, v), us, ())) = .need ((↑ts.length : Int) ≤ (9223372036854775807 : Int)) (.ite (!tmapF ts) (.leaf [.agg [.nilS], .int .i64 ((1 : Int))]) (.need ((↑us.length : Int) ≤ (9223372036854775807 : Int)) (.ite (!tmapF us) (.leaf [.agg [.nilS], .int .i64 ((1 : Int))]) (.ite (!okF u v) (.leaf [.agg [.nilS], .int .i64 ((1 : Int))]) (.need ((1 : Int) ≤ v ∧ v ≤ (1000000 : Int)) (.ite (!(decide ((0 : Int) ≤ u) && decide (u ≤ (1000 : Int) * v))) (.leaf [.agg [.nilS], .int .i64 ((2 : Int))]) (.need (((0 : Int) ≤ (0 : Int) ∧ (0 : Int) ≤ (↑ts.length : Int)) ∧ True ∧ okF u v = true ∧ (∀ (k : Nat), k < ts.length → okF (tAt ts k).fst.fst (tAt ts k).fst.snd = true) ∧ ts.length ≤ (8 : Nat) ∧ (↑(0 : Nat) : Int) ≤ (0 : Int)) (.need (((0 : Int) ≤ (0 : Int) ∧ (0 : Int) ≤ (↑us.length : Int)) ∧ True ∧ us.length ≤ (8 : Nat) ∧ (↑([] ++ keepLt (List.drop (Int.toNat (0 : Int)) ts) u v).length : Int) ≤ (8 : Int) + (0 : Int)) (.need (([] ++ keepLt (List.drop (Int.toNat (0 : Int)) ts) u v ++ shiftL (List.drop (Int.toNat (0 : Int)) us) u v).length ≤ (16777216 : Nat)) (.leaf [.agg [.own (tFrac.pair I64) ((tendF ([] ++ keepLt (List.drop (Int.toNat (0 : Int)) ts) u v ++ shiftL (List.drop (Int.toNat (0 : Int)) us) u v)).fst)], .int .i64 ((tendF ([] ++ keepLt (List.drop (Int.toNat (0 : Int)) ts) u v ++ shiftL (List.drop (Int.toNat (0 : Int)) us) u v)).snd)])))))))))) := by kernel_rfl
  refine (congrArg (Tree.ok _) htree).mpr ?_
  clear htree
  have e1 := keepLt_len ts u v
  have e2 := shiftL_len us u v
  simp only [Tree.ok, packAV, AV.same, AV.same.sameL, encV, encS, enc, inK, Nd.ok, List.headD_cons, List.cons_append, List.nil_append, List.append_nil, true_and, and_true, Bool.true_and, Bool.and_true, joinF, bne_iff_ne, ne_eq, bne_eq_false_iff_eq, Int.toNat_zero, List.drop_zero, List.nil_append, List.length_append, List.length_cons, List.length_nil, Bool.not_eq_true', Bool.not_eq_false']
  obtain ⟨hp1, hp2⟩ := hp
  by_cases h : bcF [ts, us] (u, v) = 0
  · obtain ⟨⟨⟨g1, g1'⟩, g2⟩, g3⟩ := bcF_two h
    obtain ⟨k1, k2, k3⟩ := tmap_beats g1
    obtain ⟨k1', k2', k3'⟩ := tmap_beats g1'
    have g4 := okF_bd g2
    rw [if_neg (by simp [h])]
    repeat' first | apply And.intro | intro _
    all_goals first | omega | exact g2 | exact k3 _ ‹_› | assumption | trivial | rfl | contradiction | exact g4.1 | exact g4.1.1 | exact g4.1.2 | (simp_all; done)
  · rw [if_pos h]
    have hv := bcF_val ts us u v
    repeat' first | apply And.intro | intro _
    all_goals first | omega | assumption | trivial | contradiction | (simp_all; done) | (have g4 := okF_bd ‹okF u v = true›; first | exact g4.1 | exact g4.1.1 | exact g4.1.2) | exact absurd (bcF_full ‹tmapF ts = true› ‹tmapF us = true› ‹okF u v = true› ‹(decide (0 ≤ u) && decide (u ≤ 1000 * v)) = true›) h | (exact absurd (bcF_full ‹tmapF ts = true› ‹tmapF us = true› ‹okF u v = true› (by assumption)) h)
def C_Gd_9 : FuncId → Option Ct := addC 53 ct_sJoinTempos C_Gd_8
theorem C_Gd_9_ok : COk Try.prog C_Gd_9 := addC_ok C_Gd_8_ok sat_sJoinTempos
def ct_lawSetTempo : Ct := ctOf [.s qTempo, .s tFrac, .v (.int .i64)] (fun ((ts : List tTempo.den), ((u : Int), (v : Int)), (s : Int), _) => .p ((ts.length : Int) ≤ 9223372036854775807)) (fun ((ts : List tTempo.den), ((u : Int), (v : Int)), (s : Int), _) => .bool true)
set_option maxHeartbeats 1000000 in
theorem sat_lawSetTempo : Sat Try.prog 14 ct_lawSetTempo := by
  refine sat_typed (C := C_Gd_9) (L := noL) (wr := false) mixedOk Try.func14 C_Gd_9_ok (loops0 (by kernel_rfl)) (fun _ => by first | rfl | (simp [ownsOf, ownsOf.ownsL, enc, encV, encS])) fun x hp => ?_
  obtain ⟨(ts : List tTempo.den), ⟨(u : Int), (v : Int)⟩, (s : Int), _⟩ := x
  replace hp : (ts.length : Int) ≤ 9223372036854775807 := hp
  have htree : exFunc Try.prog C_Gd_9 false noL Try.f14 (encA [.s qTempo, .s tFrac, .v (.int .i64)] (ts, (u, v), s, ())) = .need (((0 : Int) ≤ (1048576 : Int) ∧ (1048576 : Int) ≤ (1048576 : Int)) ∧ (↑ts.length : Int) ≤ (9223372036854775807 : Int)) (.ite (decide ((if (1048576 : Int) - (↑ts.length : Int) < (0 : Int) then (-1 : Int) else (1048576 : Int) - (↑ts.length : Int)) < (0 : Int))) (.leaf [.lit true]) (.need (ts.length ≤ (16777216 : Nat)) (.need ((↑ts.length : Int) ≤ (9223372036854775807 : Int)) (.need (ts.length ≤ (16777216 : Nat)) (.need ((↑ts.length : Int) ≤ (9223372036854775807 : Int)) (.need ((↑(setF ts u v s).fst.length : Int) ≤ (9223372036854775807 : Int)) (.ite (!decide ((setF ts u v s).fst = (setF ts u v s).fst)) (.leaf [.lit false]) (.ite ((setF ts u v s).snd != (setF ts u v s).snd) (.leaf [.lit false]) (.need (ts.length ≤ (16777216 : Nat)) (.need ((↑ts.length : Int) ≤ (9223372036854775807 : Int)) (.ite (!decide (ts = ts)) (.leaf [.lit false]) (.need (ts.length ≤ (16777216 : Nat) ∧ (0 : Int) ≤ (1 : Int) ∧ (1 : Int) ≤ (1000000000000 : Int)) (.ite (decide ((1 : Int) + (3 : Int) * (↑ts.length : Int) < (0 : Int))) (.leaf [.lit false]) (.need ((↑(setF ts u v s).fst.length : Int) ≤ (9223372036854775807 : Int)) (.ite (!decide ((setF ts u v s).fst = (setF ts u v s).fst)) (.leaf [.lit false]) (.ite ((setF ts u v s).snd != (setF ts u v s).snd) (.leaf [.lit false]) (.need ((setF ts u v s).fst.length ≤ (16777216 : Nat) ∧ (0 : Int) ≤ (1 : Int) ∧ (1 : Int) ≤ (1000000000000 : Int)) (.need ((rowMark mkTempoV (3 : Int) (setF ts u v s).fst.length (1 : Int)).length ≤ (16777216 : Nat) ∧ (0 : Int) ≤ (1 : Int) ∧ (1 : Int) ≤ (1000000000000 : Int)) (.ite (decide (heldR mkTempoV (3 : Int) (rowMark mkTempoV (3 : Int) (setF ts u v s).fst.length (1 : Int)) (1 : Int) < (0 : Int))) (.leaf [.lit false]) (.ite (heldR mkTempoV (3 : Int) (rowMark mkTempoV (3 : Int) (setF ts u v s).fst.length (1 : Int)) (1 : Int) != (1 : Int) + (3 : Int) * (↑(setF ts u v s).fst.length : Int)) (.leaf [.lit false]) (.need (ts.length ≤ (16777216 : Nat)) (.need ((↑ts.length : Int) ≤ (9223372036854775807 : Int)) (.need ((↑(setF ts u v s).fst.length : Int) ≤ (9223372036854775807 : Int)) (.ite (!decide ((setF ts u v s).fst = (setF ts u v s).fst)) (.leaf [.lit false]) (.ite ((setF ts u v s).snd != (setF ts u v s).snd) (.leaf [.lit false]) (.need ((rowMark mkTempoV (3 : Int) (setF ts u v s).fst.length (1 : Int)).length ≤ (16777216 : Nat) ∧ (0 : Int) ≤ (1 : Int) ∧ (1 : Int) ≤ (1000000000000 : Int)) (.ite (decide (heldR mkTempoV (3 : Int) (rowMark mkTempoV (3 : Int) (setF ts u v s).fst.length (1 : Int)) (1 : Int) < (0 : Int))) (.leaf [.lit false]) (.ite (heldR mkTempoV (3 : Int) (rowMark mkTempoV (3 : Int) (setF ts u v s).fst.length (1 : Int)) (1 : Int) != (1 : Int) + (3 : Int) * (↑(setF ts u v s).fst.length : Int)) (.leaf [.lit false]) (.leaf [.lit true]))))))))))))))))))))))))))))) := by kernel_rfl
  refine (congrArg (Tree.ok _) htree).mpr ?_
  clear htree
  have h1 := setF_len ts u v s
  simp only [Tree.ok, packAV, AV.same, AV.same.sameL, encV, encS, enc, inK, Nd.ok, List.headD_cons, List.cons_append, List.nil_append, List.append_nil, true_and, and_true, Bool.true_and, Bool.and_true, heldR_mark2, rowMark_length]
  generalize setF ts u v s = q at *
  repeat' first | apply And.intro | intro _
  all_goals first | omega | trivial | grind
def C_Gd_10 : FuncId → Option Ct := addC 14 ct_lawSetTempo C_Gd_9
theorem C_Gd_10_ok : COk Try.prog C_Gd_10 := addC_ok C_Gd_9_ok sat_lawSetTempo
def ct_lawJoinTempos : Ct := ctOf [.s qTempo, .s tFrac, .s qTempo] (fun ((ts : List tTempo.den), ((u : Int), (v : Int)), (us : List tTempo.den), _) => .p ((ts.length : Int) ≤ 9223372036854775807 ∧ (us.length : Int) ≤ 9223372036854775807)) (fun ((ts : List tTempo.den), ((u : Int), (v : Int)), (us : List tTempo.den), _) => .bool true)
set_option maxHeartbeats 1000000 in
theorem sat_lawJoinTempos : Sat Try.prog 13 ct_lawJoinTempos := by
  refine sat_typed (C := C_Gd_10) (L := noL) (wr := false) mixedOk Try.func13 C_Gd_10_ok (loops0 (by kernel_rfl)) (fun _ => by first | rfl | (simp [ownsOf, ownsOf.ownsL, enc, encV, encS])) fun x hp => ?_
  obtain ⟨(ts : List tTempo.den), ⟨(u : Int), (v : Int)⟩, (us : List tTempo.den), _⟩ := x
  replace hp : (ts.length : Int) ≤ 9223372036854775807 ∧ (us.length : Int) ≤ 9223372036854775807 := hp
  have htree : exFunc Try.prog C_Gd_10 false noL Try.f13 (encA [.s qTempo, .s tFrac, .s qTempo] (ts, (u, v), us, ())) = .need (((0 : Int) ≤ (1048576 : Int) ∧ (1048576 : Int) ≤ (1048576 : Int)) ∧ (↑ts.length : Int) ≤ (9223372036854775807 : Int)) (.ite (decide ((if (1048576 : Int) - (↑ts.length : Int) < (0 : Int) then (-1 : Int) else (1048576 : Int) - (↑ts.length : Int)) < (0 : Int))) (.leaf [.lit true]) (.need ((((0 : Int) ≤ if (1048576 : Int) - (↑ts.length : Int) < (0 : Int) then (-1 : Int) else (1048576 : Int) - (↑ts.length : Int)) ∧ (if (1048576 : Int) - (↑ts.length : Int) < (0 : Int) then (-1 : Int) else (1048576 : Int) - (↑ts.length : Int)) ≤ (1048576 : Int)) ∧ (↑us.length : Int) ≤ (9223372036854775807 : Int)) (.ite (decide ((if (if (1048576 : Int) - (↑ts.length : Int) < (0 : Int) then (-1 : Int) else (1048576 : Int) - (↑ts.length : Int)) - (↑us.length : Int) < (0 : Int) then (-1 : Int) else (if (1048576 : Int) - (↑ts.length : Int) < (0 : Int) then (-1 : Int) else (1048576 : Int) - (↑ts.length : Int)) - (↑us.length : Int)) < (0 : Int))) (.leaf [.lit true]) (.need (ts.length ≤ (16777216 : Nat)) (.need (us.length ≤ (16777216 : Nat)) (.need ((↑ts.length : Int) ≤ (9223372036854775807 : Int) ∧ (↑us.length : Int) ≤ (9223372036854775807 : Int)) (.need (ts.length ≤ (16777216 : Nat)) (.need (us.length ≤ (16777216 : Nat)) (.need ((↑ts.length : Int) ≤ (9223372036854775807 : Int) ∧ (↑us.length : Int) ≤ (9223372036854775807 : Int)) (.need ((↑(joinF ts u v us).fst.length : Int) ≤ (9223372036854775807 : Int)) (.ite (!decide ((joinF ts u v us).fst = (joinF ts u v us).fst)) (.leaf [.lit false]) (.ite ((joinF ts u v us).snd != (joinF ts u v us).snd) (.leaf [.lit false]) (.need (ts.length ≤ (16777216 : Nat)) (.need ((↑ts.length : Int) ≤ (9223372036854775807 : Int)) (.ite (!decide (ts = ts)) (.leaf [.lit false]) (.need (us.length ≤ (16777216 : Nat)) (.need ((↑us.length : Int) ≤ (9223372036854775807 : Int)) (.ite (!decide (us = us)) (.leaf [.lit false]) (.need (ts.length ≤ (16777216 : Nat) ∧ (0 : Int) ≤ (1 : Int) ∧ (1 : Int) ≤ (1000000000000 : Int)) (.need (us.length ≤ (16777216 : Nat) ∧ (0 : Int) ≤ (1 : Int) + (3 : Int) * (↑ts.length : Int) ∧ (1 : Int) + (3 : Int) * (↑ts.length : Int) ≤ (1000000000000 : Int)) (.ite (decide ((1 : Int) + (3 : Int) * (↑ts.length : Int) + (3 : Int) * (↑us.length : Int) < (0 : Int))) (.leaf [.lit false]) (.need ((↑(joinF ts u v us).fst.length : Int) ≤ (9223372036854775807 : Int)) (.ite (!decide ((joinF ts u v us).fst = (joinF ts u v us).fst)) (.leaf [.lit false]) (.ite ((joinF ts u v us).snd != (joinF ts u v us).snd) (.leaf [.lit false]) (.need ((joinF ts u v us).fst.length ≤ (16777216 : Nat) ∧ (0 : Int) ≤ (1 : Int) ∧ (1 : Int) ≤ (1000000000000 : Int)) (.need ((rowMark mkTempoV (3 : Int) (joinF ts u v us).fst.length (1 : Int)).length ≤ (16777216 : Nat) ∧ (0 : Int) ≤ (1 : Int) ∧ (1 : Int) ≤ (1000000000000 : Int)) (.ite (decide (heldR mkTempoV (3 : Int) (rowMark mkTempoV (3 : Int) (joinF ts u v us).fst.length (1 : Int)) (1 : Int) < (0 : Int))) (.leaf [.lit false]) (.ite (heldR mkTempoV (3 : Int) (rowMark mkTempoV (3 : Int) (joinF ts u v us).fst.length (1 : Int)) (1 : Int) != (1 : Int) + (3 : Int) * (↑(joinF ts u v us).fst.length : Int)) (.leaf [.lit false]) (.need (ts.length ≤ (16777216 : Nat)) (.need (us.length ≤ (16777216 : Nat)) (.need ((↑ts.length : Int) ≤ (9223372036854775807 : Int) ∧ (↑us.length : Int) ≤ (9223372036854775807 : Int)) (.need ((↑(joinF ts u v us).fst.length : Int) ≤ (9223372036854775807 : Int)) (.ite (!decide ((joinF ts u v us).fst = (joinF ts u v us).fst)) (.leaf [.lit false]) (.ite ((joinF ts u v us).snd != (joinF ts u v us).snd) (.leaf [.lit false]) (.need ((rowMark mkTempoV (3 : Int) (joinF ts u v us).fst.length (1 : Int)).length ≤ (16777216 : Nat) ∧ (0 : Int) ≤ (1 : Int) ∧ (1 : Int) ≤ (1000000000000 : Int)) (.ite (decide (heldR mkTempoV (3 : Int) (rowMark mkTempoV (3 : Int) (joinF ts u v us).fst.length (1 : Int)) (1 : Int) < (0 : Int))) (.leaf [.lit false]) (.ite (heldR mkTempoV (3 : Int) (rowMark mkTempoV (3 : Int) (joinF ts u v us).fst.length (1 : Int)) (1 : Int) != (1 : Int) + (3 : Int) * (↑(joinF ts u v us).fst.length : Int)) (.leaf [.lit false]) (.leaf [.lit true])))))))))))))))))))))))))))))))))))))) := by kernel_rfl
  refine (congrArg (Tree.ok _) htree).mpr ?_
  clear htree
  have h1 := joinF_len ts u v us
  simp only [Tree.ok, packAV, AV.same, AV.same.sameL, encV, encS, enc, inK, Nd.ok, List.headD_cons, List.cons_append, List.nil_append, List.append_nil, true_and, and_true, Bool.true_and, Bool.and_true, heldR_mark2, rowMark_length]
  generalize joinF ts u v us = q at *
  repeat' first | apply And.intro | intro _
  all_goals first | omega | trivial | grind
def C_Gd_11 : FuncId → Option Ct := addC 13 ct_lawJoinTempos C_Gd_10
theorem C_Gd_11_ok : COk Try.prog C_Gd_11 := addC_ok C_Gd_10_ok sat_lawJoinTempos

def C_Gd : FuncId → Option Ct := C_Gd_11
theorem C_Gd_ok : COk Try.prog C_Gd := C_Gd_11_ok
end Go.Proofs.Ytapfocpnpmagfaa
