/- Contracts: the tempo at a beat, positions of beats, beats of positions; the laws. Conditions: as each says. -/
import Derived.Test.YtkeckmdmmbeaiaaGreatDoorGa
set_option linter.unusedSimpArgs false
set_option linter.unusedVariables false
namespace Go.Proofs.YtkeckmdmmbeaiaaGreatDoor
open Go.RowKit Sx
set_option maxRecDepth 100000
set_option maxHeartbeats 1000000
abbrev qTMs : Ty := .seq qTempo
def askF (ts : List tTempo.den) (b : Fr) : Int := if tmapF ts = true ∧ okF b.1 b.2 = true then (if beatF b.1 b.2 = true then 0 else 2) else 1
def bcF (tss : List (List tTempo.den)) (b : Fr) : Int := if tss.all tmapF = true ∧ okF b.1 b.2 = true then (if beatF b.1 b.2 = true then 0 else 2) else 1
theorem bcF_one (ts : List tTempo.den) (b : Fr) : bcF [ts] b = askF ts b := by simp [bcF, askF]
theorem askF_zero {ts : List tTempo.den} {b : Fr} (h : askF ts b = 0) : tmapF ts = true ∧ okF b.1 b.2 = true ∧ 0 ≤ b.1 := by
  unfold askF at h
  split at h
  · rename_i h1
    split at h
    · rename_i h2
      simp only [beatF, Bool.and_eq_true, decide_eq_true_eq] at h2
      exact ⟨h1.1, h1.2, h2.2.1⟩
    · omega
  · omega
theorem tmap_beats {ts : List tTempo.den} (h : tmapF ts = true) : ts.length ≤ 8 ∧ 1 ≤ ts.length ∧ ∀ k, k < ts.length → okF (tAt ts k).1.1 (tAt ts k).1.2 = true := by
  obtain ⟨h1, _, h3, _, _⟩ := tmap_spec h
  exact ⟨h1.2, h1.1, fun k hk => (goodT_ok (h3 k hk).1).1⟩
theorem tmap_idx {ts : List tTempo.den} (h : tmapF ts = true) {b : Fr} (hb : okF b.1 b.2 = true) (h0 : 0 ≤ b.1) : idxF ts b < ts.length := by
  obtain ⟨h1, _, h3, _, h5⟩ := tmap_spec h
  exact (idxF_last h3 h1.1 h5 (okF_bd hb).1.1 h0).lt
theorem tmap_list {ts : List tTempo.den} (h : tmapF ts = true) : (psGo ts ts.length 0).1.length = ts.length ∧ ∀ k, k < ts.length → atF (psGo ts ts.length 0).1 k = (chn ts k).1 ∧ okF (chn ts k).1.1 (chn ts k).1.2 = true := by
  obtain ⟨h1, h2, h3, h4, h5⟩ := tmap_spec h
  obtain ⟨g1, g2⟩ := psGo_get ts ts.length 0 h2
  refine ⟨g1, fun k hk => ⟨?_, ((chn_ok h3 k hk).resolve_right (by rw [h4 k hk]; omega)).2⟩⟩
  have := g2 k hk
  rw [Nat.zero_add] at this
  exact this
theorem beatF_ok (a b : Int) : beatF a b = (okF a b && (decide (0 ≤ a) && decide (a ≤ 1000 * b))) := rfl
theorem all_drop {α : Type} {f : α → Bool} (xs : List α) (i : Nat) (z : α) (h : i < xs.length) : (xs.drop i).all f = (f (xs.getD i z) && (xs.drop (i + 1)).all f) := by
  rw [getD_lt _ _ _ h, List.drop_eq_getElem_cons h]
  rfl
def ct_floorDiv : Ct := ctOf [.v (.int .i64), .v (.int .i64)] (fun ((a : Int), (b : Int), _) => .p (1 ≤ b ∧ -9223372036854775807 ≤ a ∧ a ≤ 9223372036854775807)) (fun ((a : Int), (b : Int), _) => .int .i64 (a / b))
set_option maxHeartbeats 1000000 in
theorem sat_floorDiv : Sat Tryz.prog 92 ct_floorDiv := by
  refine sat_typed (C := C_Ga) (L := noL) (wr := false) mixedOk Tryz.func92 C_Ga_ok (loops0 (by kernel_rfl)) (fun _ => by first | rfl | (simp [ownsOf, ownsOf.ownsL, enc, encV, encS])) fun x hp => ?_
  obtain ⟨(a : Int), (b : Int), _⟩ := x
  replace hp : 1 ≤ b ∧ -9223372036854775807 ≤ a ∧ a ≤ 9223372036854775807 := hp
  have htree : exFunc Tryz.prog C_Ga false noL Tryz.f92 (encA [.v (.int .i64), .v (.int .i64)] (a, b, ())) = .need (b ≠ (0 : Int) ∧ inK IntKind.i64 (a.tdiv b)) (.need (b ≠ (0 : Int)) (.ite (decide (a.tmod b < (0 : Int))) (.need (inK IntKind.i64 (a.tdiv b - (1 : Int))) (.leaf [.int .i64 (a.tdiv b - (1 : Int))])) (.leaf [.int .i64 (a.tdiv b)]))) := by kernel_rfl
  refine (congrArg (Tree.ok _) htree).mpr ?_
  clear htree
  have h1 := fdiv_rule a b hp.1
  have h2 := tdiv_small a b hp.1
  simp only [Tree.ok, tyd_inj, packAV, AV.same, AV.same.sameL, encV, encS, enc, inK, Nd.ok, List.headD_cons, List.cons_append, List.nil_append, List.append_nil, true_and, and_true, Bool.true_and, Bool.and_true, decide_eq_true_eq, decide_eq_false_iff_not]
  generalize a.tdiv b = q at *
  generalize a.tmod b = r at *
  generalize a / b = e at *
  omega
def C_Gb_1 : FuncId → Option Ct := addC 92 ct_floorDiv C_Ga
theorem C_Gb_1_ok : COk Tryz.prog C_Gb_1 := addC_ok C_Ga_ok sat_floorDiv
def ct_l02Div : Ct := ctOf [.v (.int .i64), .v (.int .i64)] (fun ((a : Int), (b : Int), _) => .p (1 ≤ b ∧ -9223372036854775807 ≤ a ∧ a ≤ 9223372036854775807)) (fun ((a : Int), (b : Int), _) => .int .i64 (a / b))
set_option maxHeartbeats 1000000 in
theorem sat_l02Div : Sat Tryz.prog 69 ct_l02Div := by
  refine sat_typed (C := C_Gb_1) (L := noL) (wr := false) mixedOk Tryz.func69 C_Gb_1_ok (loops0 (by kernel_rfl)) (fun _ => by first | rfl | (simp [ownsOf, ownsOf.ownsL, enc, encV, encS])) fun x hp => ?_
  obtain ⟨(a : Int), (b : Int), _⟩ := x
  replace hp : 1 ≤ b ∧ -9223372036854775807 ≤ a ∧ a ≤ 9223372036854775807 := hp
  have htree : exFunc Tryz.prog C_Gb_1 false noL Tryz.f69 (encA [.v (.int .i64), .v (.int .i64)] (a, b, ())) = .need (b ≠ (0 : Int) ∧ inK IntKind.i64 (a.tdiv b)) (.need (b ≠ (0 : Int)) (.ite (decide (a.tmod b < (0 : Int))) (.need (inK IntKind.i64 (a.tdiv b - (1 : Int))) (.leaf [.int .i64 (a.tdiv b - (1 : Int))])) (.leaf [.int .i64 (a.tdiv b)]))) := by kernel_rfl
  refine (congrArg (Tree.ok _) htree).mpr ?_
  clear htree
  have h1 := fdiv_rule a b hp.1
  have h2 := tdiv_small a b hp.1
  simp only [Tree.ok, tyd_inj, packAV, AV.same, AV.same.sameL, encV, encS, enc, inK, Nd.ok, List.headD_cons, List.cons_append, List.nil_append, List.append_nil, true_and, and_true, Bool.true_and, Bool.and_true, decide_eq_true_eq, decide_eq_false_iff_not]
  generalize a.tdiv b = q at *
  generalize a.tmod b = r at *
  generalize a / b = e at *
  omega
def C_Gb_2 : FuncId → Option Ct := addC 69 ct_l02Div C_Gb_1
theorem C_Gb_2_ok : COk Tryz.prog C_Gb_2 := addC_ok C_Gb_1_ok sat_l02Div
def ct_FloorFrac : Ct := ctOf [.s tFrac] (fun _ => .tt) (fun (((u : Int), (v : Int)), _) => .int .i64 (if okF u v = true then u / v else 0))
set_option maxHeartbeats 1000000 in
theorem sat_FloorFrac : Sat Tryz.prog 66 ct_FloorFrac := by
  refine sat_typed (C := C_Gb_2) (L := noL) (wr := false) mixedOk Tryz.func66 C_Gb_2_ok (loops0 (by kernel_rfl)) (fun _ => by first | rfl | (simp [ownsOf, ownsOf.ownsL, enc, encV, encS])) fun x hp => ?_
  obtain ⟨⟨(u : Int), (v : Int)⟩, _⟩ := x
  clear hp
  have htree : exFunc Tryz.prog C_Gb_2 false noL Tryz.f66 (encA [.s tFrac] ((u, v), ())) = .ite (!okF u v) (.leaf [.int .i64 ((0 : Int))]) (.need ((1 : Int) ≤ v ∧ (-9223372036854775807 : Int) ≤ u ∧ u ≤ (9223372036854775807 : Int)) (.leaf [.int .i64 (u / v)])) := by kernel_rfl
  refine (congrArg (Tree.ok _) htree).mpr ?_
  clear htree
  have h := @okF_bd u v
  simp only [Tree.ok, tyd_inj, packAV, AV.same, AV.same.sameL, encV, encS, enc, inK, Nd.ok, List.headD_cons, List.cons_append, List.nil_append, List.append_nil, true_and, and_true, Bool.true_and, Bool.and_true, Bool.not_eq_true', Bool.not_eq_false']
  by_cases hk : okF u v = true
  · have h := h hk
    simp only [hk, if_true, Bool.true_eq_false, false_implies, true_implies]
    repeat' first | apply And.intro | intro _
    all_goals first | omega | rfl | trivial
  · rw [Bool.not_eq_true] at hk
    simp [hk, Tree.ok, tyd_inj, packAV, AV.same, AV.same.sameL, encV, encS, enc, inK, Nd.ok, List.headD_cons, List.cons_append, List.nil_append, List.append_nil, true_and, and_true, Bool.true_and, Bool.and_true]
def C_Gb_3 : FuncId → Option Ct := addC 66 ct_FloorFrac C_Gb_2
theorem C_Gb_3_ok : COk Tryz.prog C_Gb_3 := addC_ok C_Gb_2_ok sat_FloorFrac
def ann_beatCode_0 : LAnn := { sameS := [2, 7, 8], modS := [4, 9], sameH := [2], modH := [], base := 900000, nilE := [], nilB := [], G := fun
  | ⟨[.ptr 2 0, .view (.seq (.pair (.pair (.int .i64) (.int .i64)) (.int .i64))) tss, .int .i64 n], [.box [.int .i64 u, .int .i64 v]], [.int .i64 c, .int .i64 i], []⟩ => some (.p ((0 ≤ i ∧ i ≤ n) ∧ n = (tss.length : Int) ∧ n ≤ 9223372036854775807 ∧ ∀ ts ∈ tss, ((ts : List tTempo.den).length : Int) ≤ 9223372036854775807), .ite ((tss.drop i.toNat).all tmapF) (.leaf (.exit 0) [.int .i64 c, .unk] []) (.leaf .ret [.int .i64 1, .unk] []))
  | _ => none }
def ct_beatCode : Ct := ctOf [.s tFrac, .v qTMs] (fun (((u : Int), (v : Int)), (tss : List (List tTempo.den)), _) => .p ((tss.length : Int) ≤ 9223372036854775807 ∧ ∀ ts ∈ tss, ((ts : List tTempo.den).length : Int) ≤ 9223372036854775807)) (fun (((u : Int), (v : Int)), (tss : List (List tTempo.den)), _) => .int .i64 (bcF tss (u, v)))
set_option maxHeartbeats 1000000 in
theorem loop_beatCode_0 : LoopSat Tryz.prog Tryz.f57.ntmps (loopAt Tryz.f57 0) ann_beatCode_0 := by
  refine loopSat_of (C := C_Gb_3) (L := (addL (firstId (loopAt Tryz.f57 0)) ann_beatCode_0 noL)) (wr := false) mixedOk C_Gb_3_ok (loopsIn0 (by kernel_rfl)) (fun d => match d.same, d.vals with | [_, _, .int _ n], [_, .int _ i] => (n - i).toNat | _, _ => 0) fun d p t hG hp => ?_
  simp only [ann_beatCode_0] at hG
  split at hG
  rotate_left
  · simp at hG
  rename_i tss n u v c i
  simp only [Option.some.injEq, Prod.mk.injEq] at hG
  obtain ⟨rfl, rfl⟩ := hG
  have htree : exRound Tryz.prog C_Gb_3 false (addL (firstId (loopAt Tryz.f57 0)) ann_beatCode_0 noL) Tryz.f57.ntmps ann_beatCode_0 (loopAt Tryz.f57 0) ⟨[.ptr 2 0, .view qTempo tss, .int .i64 n], [.box [.int .i64 u, .int .i64 v]], [.int .i64 c, .int .i64 i], []⟩ = .ite (decide (i < n)) (.need ((0 : Int) ≤ i ∧ i < (↑tss.length : Int)) (.need ((↑(List.length (getT qTempo tss i)) : Int) ≤ (9223372036854775807 : Int)) (.ite (!tmapF (getT qTempo tss i)) (.leaf (.ret, ⟨[.ptr 2 0, .view (tTempo.seq) (tss), .int .i64 (n)], [.box [.int .i64 (u), .int .i64 (v)]], [.int .i64 ((1 : Int)), .int .i64 (i)], []⟩)) (.need (inK IntKind.i64 (i + (1 : Int))) (.leaf (.normal, ⟨[.ptr 2 0, .view (tTempo.seq) (tss), .int .i64 (n)], [.box [.int .i64 (u), .int .i64 (v)]], [.int .i64 (c), .int .i64 (i + (1 : Int))], []⟩)))))) (.leaf ((.exit 0), ⟨[.ptr 2 0, .view (tTempo.seq) (tss), .int .i64 (n)], [.box [.int .i64 (u), .int .i64 (v)]], [.int .i64 (c), .int .i64 (i)], []⟩)) := by kernel_rfl
  rw [htree]
  clear htree
  replace hp : (0 ≤ i ∧ i ≤ n) ∧ n = (tss.length : Int) ∧ n ≤ 9223372036854775807 ∧ ∀ ts ∈ tss, ((ts : List tTempo.den).length : Int) ≤ 9223372036854775807 := hp
  have hz : ∀ (k : Int), getT qTempo tss k = tss.getD k.toNat [] := fun _ => rfl
  obtain ⟨hi, hn, hl, hall⟩ := hp
  simp only [Tree.ok, tyd_inj, packAV, AV.same, AV.same.sameL, encV, encS, enc, inK, Nd.ok, List.headD_cons, List.cons_append, List.nil_append, List.append_nil, true_and, and_true, Bool.true_and, Bool.and_true, loop_next, weakBs_nil, weakBs_cons, weakB_self, weakB_row, weakB_int, weakL_nil, weakL_unk, weakL_guess, isRow_own, isRow_unk, weakL_int, weakL_bool, weakL_str, weakL_own, weakL_view, weakL_nilS, noRow_int, noRow_bool, own_inj, LTree.val, cond_true, cond_false, Prod.mk.injEq, List.cons.injEq, AV.int.injEq, AV.bool.injEq, AV.str.injEq, AV.agg.injEq, ann_beatCode_0, decide_eq_true_eq, decide_eq_false_iff_not, hz, Bool.not_eq_true', Bool.not_eq_false']
  refine ⟨fun ha => ?_, fun ha => ?_⟩
  · have h1 := all_drop (f := tmapF) tss i.toNat [] (by omega)
    have h2 := hall (tss.getD i.toNat []) (by rw [getD_lt _ _ _ (by omega : i.toNat < tss.length)]; exact List.getElem_mem _)
    rw [show (i + 1).toNat = i.toNat + 1 by omega, h1]
    rcases Bool.eq_false_or_eq_true (tmapF (tss.getD i.toNat [])) with hB | hB
    · simp only [hB, Bool.true_and]
      repeat' first | apply And.intro | intro _
      all_goals first | omega | exact h2 | exact hall _ ‹_› | assumption | trivial | rfl | contradiction
    · simp only [hB, Bool.false_and, cond_false]
      repeat' first | apply And.intro | intro _
      all_goals first | omega | exact h2 | exact hall _ ‹_› | assumption | trivial | rfl | contradiction
  · rw [show i.toNat = tss.length by omega, List.drop_length]
    simp [Tree.ok, tyd_inj, packAV, AV.same, AV.same.sameL, encV, encS, enc, inK, Nd.ok, List.headD_cons, List.cons_append, List.nil_append, List.append_nil, true_and, and_true, Bool.true_and, Bool.and_true, loop_next, weakBs_nil, weakBs_cons, weakB_self, weakB_row, weakB_int, weakL_nil, weakL_unk, weakL_guess, isRow_own, isRow_unk, weakL_int, weakL_bool, weakL_str, weakL_own, weakL_view, weakL_nilS, noRow_int, noRow_bool, own_inj, LTree.val, cond_true, cond_false, Prod.mk.injEq, List.cons.injEq, AV.int.injEq, AV.bool.injEq, AV.str.injEq, AV.agg.injEq]
theorem loops_beatCode : ∀ c, Tryz.f57.body = some c → LoopsOk Tryz.prog (addL (firstId (loopAt Tryz.f57 0)) ann_beatCode_0 noL) Tryz.f57.ntmps c := loopsN fun i hi ann h => by
  have hn : loopN Tryz.f57 = 1 := by kernel_rfl
  rw [hn] at hi
  exact match i, hi, h with
    | 0, _, h => (Option.some.inj ((show (addL (firstId (loopAt Tryz.f57 0)) ann_beatCode_0 noL) (firstId (loopAt Tryz.f57 0)) = some ann_beatCode_0 from by kernel_rfl).symm.trans h)) ▸ loop_beatCode_0
set_option maxHeartbeats 1000000 in
theorem sat_beatCode : Sat Tryz.prog 57 ct_beatCode := by
  refine sat_typed (C := C_Gb_3) (L := (addL (firstId (loopAt Tryz.f57 0)) ann_beatCode_0 noL)) (wr := false) mixedOk Tryz.func57 C_Gb_3_ok (loops_beatCode) (fun _ => by first | rfl | (simp [ownsOf, ownsOf.ownsL, enc, encV, encS])) fun x hp => ?_
  obtain ⟨⟨(u : Int), (v : Int)⟩, (tss : List (List tTempo.den)), _⟩ := x
  replace hp : (tss.length : Int) ≤ 9223372036854775807 ∧ ∀ ts ∈ tss, ((ts : List tTempo.den).length : Int) ≤ 9223372036854775807 := hp
  have htree : exFunc Tryz.prog C_Gb_3 false (addL (firstId (loopAt Tryz.f57 0)) ann_beatCode_0 noL) Tryz.f57 (encA [.s tFrac, .v qTMs] ((u, v), tss, ())) = .need (((0 : Int) ≤ (0 : Int) ∧ (0 : Int) ≤ (↑tss.length : Int)) ∧ (↑tss.length : Int) = (↑tss.length : Int) ∧ (↑tss.length : Int) ≤ (9223372036854775807 : Int) ∧ ∀ (ts : (((Ty.int IntKind.i64).pair (Ty.int IntKind.i64)).pair (Ty.int IntKind.i64)).seq.den), ts ∈ tss → (↑(List.length ts) : Int) ≤ (9223372036854775807 : Int)) (.ite ((List.drop (Int.toNat (0 : Int)) tss).all tmapF) (.ite (!okF u v) (.leaf [.int .i64 ((1 : Int))]) (.ite (!beatF u v) (.leaf [.int .i64 ((2 : Int))]) (.leaf [.int .i64 ((0 : Int))]))) (.leaf [.int .i64 ((1 : Int))])) := by kernel_rfl
  refine (congrArg (Tree.ok _) htree).mpr ?_
  clear htree
  simp only [Tree.ok, tyd_inj, packAV, AV.same, AV.same.sameL, encV, encS, enc, inK, Nd.ok, List.headD_cons, List.cons_append, List.nil_append, List.append_nil, true_and, and_true, Bool.true_and, Bool.and_true, Int.toNat_zero, List.drop_zero, bcF, Bool.not_eq_true', Bool.not_eq_false']
  rcases Bool.eq_false_or_eq_true (tss.all tmapF) with h1 | h1 <;> rcases Bool.eq_false_or_eq_true (okF u v) with h2 | h2 <;> rcases Bool.eq_false_or_eq_true (beatF u v) with h3 | h3 <;> simp only [h1, h2, h3, and_self, and_true, and_false, if_true, if_false, Bool.false_eq_true, Bool.true_eq_false, false_implies, true_implies]
  all_goals
    repeat' first | apply And.intro | intro _
    all_goals first | omega | exact hp.1 | exact hp.2 _ ‹_› | rfl | trivial
def C_Gb_4 : FuncId → Option Ct := addC 57 ct_beatCode C_Gb_3
theorem C_Gb_4_ok : COk Tryz.prog C_Gb_4 := addC_ok C_Gb_3_ok sat_beatCode
def tempoAtF (ts : List tTempo.den) (b : Fr) : Int × Int := if askF ts b = 0 then ((tAt ts (idxF ts b)).2, 0) else (0, askF ts b)

def C_Gb : FuncId → Option Ct := C_Gb_4
theorem C_Gb_ok : COk Tryz.prog C_Gb := C_Gb_4_ok
end Go.Proofs.YtkeckmdmmbeaiaaGreatDoor
