/- The law on LengthOfItems, by the evaluator. Conditions: as each says. -/
import Derived.Test.YtdglkoeojhakhaaHe
set_option linter.unusedSimpArgs false
set_option linter.unusedVariables false
namespace Go.Proofs.Ytdglkoeojhakhaa
open Go.RowKit Sx
set_option maxRecDepth 100000
set_option maxHeartbeats 1000000
def flatC (l : Its) : Its × Int := if 80 < cntI l then ([], 5) else flatV l
def okItems (l : Its) : Bool := decide (l.length ≤ 80) && rngF l.length l 0
def flatA (l : Its) : Its × Int := if okItems l = true then flatC l else ([], 1)
theorem okItems_vl {l : Its} (h : okItems l = true) : l.length ≤ 80 ∧ ∃ d : Int, 0 ≤ d ∧ d ≤ 3 ∧ vl l d := by
  simp only [okItems, Bool.and_eq_true, decide_eq_true_eq] at h
  exact ⟨h.1, 0, by omega, by omega, h.2⟩
theorem flatA_gd (l : Its) : (∀ y ∈ (flatA l).1, gdI y) ∧ (flatA l).1.length ≤ 80 := by
  unfold flatA
  split
  · rename_i h
    obtain ⟨_, d, d0, d3, hv⟩ := okItems_vl h
    have hg := flatV_gd d0 d3 hv
    unfold flatC
    split
    · simp
    · exact ⟨hg.1, by omega⟩
  · simp
theorem lenGo_code : ∀ (l : Its) (e : Int × Int), (lenGo l e).2 = 0 ∨ ((lenGo l e).2 = 2 ∧ (lenGo l e).1 = (0, 0))
  | [], _ => .inl rfl
  | y :: t, e => by
    unfold lenGo
    split
    · exact lenGo_code t e
    · split
      · exact lenGo_code t _
      · exact .inr ⟨rfl, rfl⟩
def ct_flattenCode : Ct := ctOf [.v qItem] (fun ((l : List tItem.den), _) => .p (l.length ≤ 80 ∧ ∃ d : Int, 0 ≤ d ∧ d ≤ 3 ∧ vl l d)) (fun ((l : List tItem.den), _) => .tup [.own tItem (flatC l).1, .int .i64 (flatC l).2])
set_option maxHeartbeats 1000000 in
theorem sat_flattenCode : Sat Try.prog 121 ct_flattenCode := by
  refine sat_typed (C := C_He) (L := noL) (wr := false) mixedOk Try.func121 C_He_ok (loops0 (by kernel_rfl)) (fun _ => by first | rfl | (simp [ownsOf, ownsOf.ownsL, enc, encV, encS])) fun x hp => ?_
  obtain ⟨(l : List tItem.den), _⟩ := x
  replace hp : l.length ≤ 80 ∧ ∃ d : Int, 0 ≤ d ∧ d ≤ 3 ∧ vl l d := hp
  have htree : exFunc Try.prog C_He false noL Try.f121 (encA [.v qItem] (l, ())) = .need (l.length ≤ (80 : Nat) ∧ ∃ (d : Int), (0 : Int) ≤ d ∧ d ≤ (3 : Int) ∧ vl l d) (.ite (decide ((80 : Int) < cntI l)) (.leaf [.nilS, .int .i64 ((5 : Int))]) (.need (l.length ≤ (80 : Nat) ∧ ∃ (d : Int), (0 : Int) ≤ d ∧ d ≤ (3 : Int) ∧ vl l d) (.leaf [.own (I64.pair (tPitch.seq.pair (tFrac.pair (I64.pair (tIv.pair I64))))) ((flatV l).fst), .int .i64 ((flatV l).snd)]))) := by kernel_rfl
  refine (congrArg (Tree.ok _) htree).mpr ?_
  clear htree
  obtain ⟨h1, h2⟩ := hp
  simp only [Tree.ok, packAV, AV.same, AV.same.sameL, encV, encS, enc, inK, Nd.ok, List.headD_cons, List.cons_append, List.nil_append, List.append_nil, true_and, and_true, Bool.true_and, Bool.and_true, flatC]
  by_cases hc : 80 < cntI l
  all_goals
    simp only [hc, if_true, if_false]
    repeat' first | apply And.intro | intro _
    all_goals first | omega | assumption | trivial | rfl | contradiction | (simp_all; done)
def C_Hf_1 : FuncId → Option Ct := addC 121 ct_flattenCode C_He
theorem C_Hf_1_ok : COk Try.prog C_Hf_1 := addC_ok C_He_ok sat_flattenCode
def ct_iFlattenItems : Ct := ctOf [.v qItem] (fun ((l : List tItem.den), _) => .p ((l.length : Int) ≤ 9223372036854775807 ∧ ∀ z ∈ l, pLen z.2.1 ≤ 9223372036854775807)) (fun ((l : List tItem.den), _) => .tup [.own tItem (flatA l).1, .int .i64 (flatA l).2])
set_option maxHeartbeats 1000000 in
theorem sat_iFlattenItems : Sat Try.prog 36 ct_iFlattenItems := by
  refine sat_typed (C := C_Hf_1) (L := noL) (wr := false) mixedOk Try.func36 C_Hf_1_ok (loops0 (by kernel_rfl)) (fun _ => by first | rfl | (simp [ownsOf, ownsOf.ownsL, enc, encV, encS])) fun x hp => ?_
  obtain ⟨(l : List tItem.den), _⟩ := x
  replace hp : (l.length : Int) ≤ 9223372036854775807 ∧ ∀ z ∈ l, pLen z.2.1 ≤ 9223372036854775807 := hp
  have htree : exFunc Try.prog C_Hf_1 false noL Try.f36 (encA [.v qItem] (l, ())) = .need ((↑l.length : Int) ≤ (9223372036854775807 : Int) ∧ ∀ (z : tItem.den), z ∈ l → pLen z.snd.fst ≤ (9223372036854775807 : Int)) (.ite (!(decide (l.length ≤ (80 : Nat)) && rngF l.length l (0 : Int))) (.leaf [.nilS, .int .i64 ((1 : Int))]) (.need (l.length ≤ (80 : Nat) ∧ ∃ (d : Int), (0 : Int) ≤ d ∧ d ≤ (3 : Int) ∧ vl l d) (.leaf [.own (I64.pair (tPitch.seq.pair (tFrac.pair (I64.pair (tIv.pair I64))))) ((flatC l).fst), .int .i64 ((flatC l).snd)]))) := by kernel_rfl
  refine (congrArg (Tree.ok _) htree).mpr ?_
  clear htree
  have hv := @okItems_vl l
  have e : (decide (l.length ≤ 80) && rngF l.length l 0) = okItems l := rfl
  simp only [Tree.ok, packAV, AV.same, AV.same.sameL, encV, encS, enc, inK, Nd.ok, List.headD_cons, List.cons_append, List.nil_append, List.append_nil, true_and, and_true, Bool.true_and, Bool.and_true, flatA, e]
  cases ho : okItems l
  all_goals
    simp only [Bool.false_eq_true, if_false, if_true]
    repeat' first | apply And.intro | intro _
    all_goals first | exact hp.1 | exact hp.2 _ ‹_› | exact (hv ho).1 | exact (hv ho).2 | trivial | rfl | contradiction | (simp_all; done)
def C_Hf_2 : FuncId → Option Ct := addC 36 ct_iFlattenItems C_Hf_1
theorem C_Hf_2_ok : COk Try.prog C_Hf_2 := addC_ok C_Hf_1_ok sat_iFlattenItems
def ct_sFlattenItems : Ct := ctOf [.v qItem] (fun ((l : List tItem.den), _) => .p ((l.length : Int) ≤ 9223372036854775807 ∧ ∀ z ∈ l, pLen z.2.1 ≤ 9223372036854775807)) (fun ((l : List tItem.den), _) => .tup [.own tItem (flatA l).1, .int .i64 (flatA l).2])
set_option maxHeartbeats 1000000 in
theorem sat_sFlattenItems : Sat Try.prog 35 ct_sFlattenItems := by
  refine sat_typed (C := C_Hf_2) (L := noL) (wr := false) mixedOk Try.func35 C_Hf_2_ok (loops0 (by kernel_rfl)) (fun _ => by first | rfl | (simp [ownsOf, ownsOf.ownsL, enc, encV, encS])) fun x hp => ?_
  obtain ⟨(l : List tItem.den), _⟩ := x
  replace hp : (l.length : Int) ≤ 9223372036854775807 ∧ ∀ z ∈ l, pLen z.2.1 ≤ 9223372036854775807 := hp
  have htree : exFunc Try.prog C_Hf_2 false noL Try.f35 (encA [.v qItem] (l, ())) = .need ((↑l.length : Int) ≤ (9223372036854775807 : Int) ∧ ∀ (z : tItem.den), z ∈ l → pLen z.snd.fst ≤ (9223372036854775807 : Int)) (.ite (!(decide (l.length ≤ (80 : Nat)) && rngF l.length l (0 : Int))) (.leaf [.nilS, .int .i64 ((1 : Int))]) (.need (l.length ≤ (80 : Nat) ∧ ∃ (d : Int), (0 : Int) ≤ d ∧ d ≤ (3 : Int) ∧ vl l d) (.ite (decide ((80 : Int) < cntI l)) (.leaf [.nilS, .int .i64 ((5 : Int))]) (.need (l.length ≤ (80 : Nat) ∧ ∃ (d : Int), (0 : Int) ≤ d ∧ d ≤ (3 : Int) ∧ vl l d) (.leaf [.own (I64.pair (tPitch.seq.pair (tFrac.pair (I64.pair (tIv.pair I64))))) ((flatV l).fst), .int .i64 ((flatV l).snd)]))))) := by kernel_rfl
  refine (congrArg (Tree.ok _) htree).mpr ?_
  clear htree
  have hv := @okItems_vl l
  have e : (decide (l.length ≤ 80) && rngF l.length l 0) = okItems l := rfl
  simp only [Tree.ok, packAV, AV.same, AV.same.sameL, encV, encS, enc, inK, Nd.ok, List.headD_cons, List.cons_append, List.nil_append, List.append_nil, true_and, and_true, Bool.true_and, Bool.and_true, flatA, flatC, e, decide_eq_true_eq, decide_eq_false_iff_not]
  cases ho : okItems l
  · simp only [Bool.false_eq_true, if_false]
    repeat' first | apply And.intro | intro _
    all_goals first | exact hp.1 | exact hp.2 _ ‹_› | trivial | rfl | contradiction | (simp_all; done)
  · simp only [if_true]
    by_cases hc : 80 < cntI l
    all_goals
      simp only [hc, if_true, if_false]
      repeat' first | apply And.intro | intro _
      all_goals first | exact hp.1 | exact hp.2 _ ‹_› | exact (hv ho).1 | exact (hv ho).2 | trivial | rfl | contradiction | (simp_all; done)
def C_Hf_3 : FuncId → Option Ct := addC 35 ct_sFlattenItems C_Hf_2
theorem C_Hf_3_ok : COk Try.prog C_Hf_3 := addC_ok C_Hf_2_ok sat_sFlattenItems
def ct_isTimed : Ct := ctOf [.s tItem] (fun _ => .tt) (fun ((y : tItem.den), _) => .bool (decide ((y.1 : Int) = 1) || decide ((y.1 : Int) = 2)))
set_option maxHeartbeats 1000000 in
theorem sat_isTimed : Sat Try.prog 106 ct_isTimed := by
  refine sat_typed (C := C_Hf_3) (L := noL) (wr := false) mixedOk Try.func106 C_Hf_3_ok (loops0 (by kernel_rfl)) (fun _ => by first | rfl | (simp [ownsOf, ownsOf.ownsL, enc, encV, encS])) fun x hp => ?_
  obtain ⟨(y : tItem.den), _⟩ := x
  clear hp
  have htree : exFunc Try.prog C_Hf_3 false noL Try.f106 (encA [.s tItem] (y, ())) = .ite (y.fst == (1 : Int)) (.leaf [.lit true]) (.leaf [.bool (y.fst == (2 : Int))]) := by kernel_rfl
  refine (congrArg (Tree.ok _) htree).mpr ?_
  clear htree
  simp only [Tree.ok, packAV, AV.same, AV.same.sameL, encV, encS, enc, inK, Nd.ok, List.headD_cons, List.cons_append, List.nil_append, List.append_nil, true_and, and_true, Bool.true_and, Bool.and_true]
  repeat' first | apply And.intro | intro _
  all_goals first | omega | trivial | (simp_all; done) | (rw [Bool.eq_iff_iff]; simp_all; done) | (simp_all; rw [Bool.eq_iff_iff]; simp; done)
def C_Hf_4 : FuncId → Option Ct := addC 106 ct_isTimed C_Hf_3
theorem C_Hf_4_ok : COk Try.prog C_Hf_4 := addC_ok C_Hf_3_ok sat_isTimed
def lenF2 (l : Its) : (Int × Int) × Int := if (flatA l).2 = 0 then lenGo (flatA l).1 (0, 1) else ((0, 0), (flatA l).2)
def ann_iLengthOfItems_0 : LAnn := { sameS := [2, 6, 19, 20], modS := [3, 5, 21], sameH := [11], modH := [2, 6], base := 900000, nilE := [], nilB := [], G := fun
  | ⟨[.ptr 2 0, .ptr 6 0, .row 11, .int .i64 n], [.row (.pair (.int .i64) (.pair (.seq (.pair (.int .i64) (.pair (.int .i64) (.int .i64)))) (.pair (.pair (.int .i64) (.int .i64)) (.pair (.int .i64) (.pair (.pair (.int .i64) (.int .i64)) (.int .i64)))))) fs], [.int .i64 c, .int .i64 d, .int .i64 k], [[.int .i64 z1, .int .i64 z2], [.int .i64 a, .int .i64 b]]⟩ => some (.p (((0 ≤ k ∧ k ≤ n) ∧ n = (fs.length : Int) ∧ n ≤ 80) ∧ okF a b = true ∧ ∀ y ∈ fs, gdI y), .ite (decide ((lenGo (fs.drop k.toNat) (a, b)).2 = 0)) (.leaf (.exit 0) [.int .i64 c, .unk, .unk] [[.int .i64 z1, .int .i64 z2], [.int .i64 (lenGo (fs.drop k.toNat) (a, b)).1.1, .int .i64 (lenGo (fs.drop k.toNat) (a, b)).1.2]]) (.leaf .ret [.int .i64 2, .unk, .unk] [[.int .i64 0, .int .i64 0], [.unk, .unk]]))
  | _ => none }
def ct_iLengthOfItems : Ct := ctOf [.v qItem] (fun ((l : List tItem.den), _) => .p ((l.length : Int) ≤ 9223372036854775807 ∧ ∀ z ∈ l, pLen z.2.1 ≤ 9223372036854775807)) (fun ((l : List tItem.den), _) => .tup [.agg (enc tFrac (lenF2 l).1), .int .i64 (lenF2 l).2])
set_option maxHeartbeats 1000000 in
theorem loop_iLengthOfItems_0 : LoopSat Try.prog Try.f28.ntmps (loopAt Try.f28 0) ann_iLengthOfItems_0 := by
  refine loopSat_of (C := C_Hf_4) (L := (addL (firstId (loopAt Try.f28 0)) ann_iLengthOfItems_0 noL)) (wr := false) mixedOk C_Hf_4_ok (loopsIn0 (by kernel_rfl)) (fun d => match d.same, d.vals with | [_, _, _, .int _ n], [_, _, .int _ k] => (n - k).toNat | _, _ => 0) fun d p t hG hp => ?_
  simp only [ann_iLengthOfItems_0] at hG
  split at hG
  rotate_left
  · simp at hG
  rename_i n fs c d k z1 z2 a b
  simp only [Option.some.injEq, Prod.mk.injEq] at hG
  obtain ⟨rfl, rfl⟩ := hG
  have htree : exRound Try.prog C_Hf_4 false (addL (firstId (loopAt Try.f28 0)) ann_iLengthOfItems_0 noL) Try.f28.ntmps ann_iLengthOfItems_0 (loopAt Try.f28 0) ⟨[.ptr 2 0, .ptr 6 0, .row 11, .int .i64 n], [.row tItem fs], [.int .i64 c, .int .i64 d, .int .i64 k], [[.int .i64 z1, .int .i64 z2], [.int .i64 a, .int .i64 b]]⟩ = .ite (decide (k < n)) (.need ((0 : Int) ≤ k ∧ k < (↑fs.length : Int)) (.need (k.toNat < fs.length) (.ite (decide ((fs.getD k.toNat tItem.zero).fst = (1 : I64.den)) || decide ((fs.getD k.toNat tItem.zero).fst = (2 : I64.den))) (.ite ((addF a b (fs.getD k.toNat tItem.zero).snd.snd.fst.fst (fs.getD k.toNat tItem.zero).snd.snd.fst.snd).snd != (0 : Int)) (.leaf (.ret, ⟨[.ptr 2 0, .ptr 6 0, .row 11, .int .i64 (n)], [.row (I64.pair (tPitch.seq.pair (tFrac.pair (I64.pair (tIv.pair I64))))) (fs)], [.int .i64 ((addF a b (fs.getD k.toNat tItem.zero).snd.snd.fst.fst (fs.getD k.toNat tItem.zero).snd.snd.fst.snd).snd), .int .i64 ((addF a b (fs.getD k.toNat tItem.zero).snd.snd.fst.fst (fs.getD k.toNat tItem.zero).snd.snd.fst.snd).snd), .int .i64 (k)], [[.int .i64 ((0 : Int)), .int .i64 ((0 : Int))], [.int .i64 ((addF a b (fs.getD k.toNat tItem.zero).snd.snd.fst.fst (fs.getD k.toNat tItem.zero).snd.snd.fst.snd).fst.fst), .int .i64 ((addF a b (fs.getD k.toNat tItem.zero).snd.snd.fst.fst (fs.getD k.toNat tItem.zero).snd.snd.fst.snd).fst.snd)]]⟩)) (.need (inK IntKind.i64 (k + (1 : Int))) (.leaf (.normal, ⟨[.ptr 2 0, .ptr 6 0, .row 11, .int .i64 (n)], [.row (I64.pair (tPitch.seq.pair (tFrac.pair (I64.pair (tIv.pair I64))))) (fs)], [.int .i64 (c), .int .i64 ((addF a b (fs.getD k.toNat tItem.zero).snd.snd.fst.fst (fs.getD k.toNat tItem.zero).snd.snd.fst.snd).snd), .int .i64 (k + (1 : Int))], [[.int .i64 (z1), .int .i64 (z2)], [.int .i64 ((addF a b (fs.getD k.toNat tItem.zero).snd.snd.fst.fst (fs.getD k.toNat tItem.zero).snd.snd.fst.snd).fst.fst), .int .i64 ((addF a b (fs.getD k.toNat tItem.zero).snd.snd.fst.fst (fs.getD k.toNat tItem.zero).snd.snd.fst.snd).fst.snd)]]⟩)))) (.need (inK IntKind.i64 (k + (1 : Int))) (.leaf (.normal, ⟨[.ptr 2 0, .ptr 6 0, .row 11, .int .i64 (n)], [.row (I64.pair (tPitch.seq.pair (tFrac.pair (I64.pair (tIv.pair I64))))) (fs)], [.int .i64 (c), .int .i64 (d), .int .i64 (k + (1 : Int))], [[.int .i64 (z1), .int .i64 (z2)], [.int .i64 (a), .int .i64 (b)]]⟩)))))) (.leaf ((.exit 0), ⟨[.ptr 2 0, .ptr 6 0, .row 11, .int .i64 (n)], [.row (I64.pair (tPitch.seq.pair (tFrac.pair (I64.pair (tIv.pair I64))))) (fs)], [.int .i64 (c), .int .i64 (d), .int .i64 (k)], [[.int .i64 (z1), .int .i64 (z2)], [.int .i64 (a), .int .i64 (b)]]⟩)) := by kernel_rfl
  rw [htree]
  clear htree
  replace hp : ((0 ≤ k ∧ k ≤ n) ∧ n = (fs.length : Int) ∧ n ≤ 80) ∧ okF a b = true ∧ ∀ y ∈ fs, gdI y := hp
  obtain ⟨⟨hk, hn, h80⟩, hab, hg⟩ := hp
  simp only [Tree.ok, packAV, AV.same, AV.same.sameL, encV, encS, enc, inK, Nd.ok, List.headD_cons, List.cons_append, List.nil_append, List.append_nil, true_and, and_true, Bool.true_and, Bool.and_true, loop_next, weakBs_nil, weakBs_cons, weakB_self, weakB_row, weakB_int, weakL_nil, weakL_unk, weakL_guess, isRow_own, isRow_unk, weakL_int, weakL_bool, weakL_str, weakL_own, weakL_view, weakL_nilS, noRow_int, noRow_bool, own_inj, LTree.val, cond_true, cond_false, Prod.mk.injEq, List.cons.injEq, AV.int.injEq, AV.bool.injEq, AV.str.injEq, AV.agg.injEq, ann_iLengthOfItems_0, decide_eq_true_eq, decide_eq_false_iff_not, bne_iff_ne, ne_eq, bne_eq_false_iff_eq, Bool.or_eq_true, Bool.or_eq_false_iff]
  refine ⟨fun ha => ?_, fun ha => ?_⟩
  · have h1 := lenGo_at fs k.toNat (by omega) (a, b)
    have hy := mem_at hg k.toNat tItem.zero (by omega)
    simp only at h1
    rw [show (k + 1).toNat = k.toNat + 1 by omega, h1]
    clear h1
    obtain ⟨K, P, A1, A2, V1, M1, M2, Z1, he⟩ := i8 (fs.getD k.toNat tItem.zero)
    simp only [he] at *
    have hK : K = 1 ∨ K = 2 ∨ K = 3 := hy.1
    have hl : K ≠ 3 → lenF A1 A2 = true := hy.2
    generalize fs.drop (k.toNat + 1) = T at *
    by_cases hk3 : K = 3
    · rw [if_pos hk3]
      repeat' first | apply And.intro | intro _
      all_goals first | omega | assumption | trivial | exact hg _ ‹_› | (simp [Tree.ok, packAV, AV.same, AV.same.sameL, encV, encS, enc, inK, Nd.ok, List.headD_cons, List.cons_append, List.nil_append, List.append_nil, true_and, and_true, Bool.true_and, Bool.and_true, loop_next, weakBs_nil, weakBs_cons, weakB_self, weakB_row, weakB_int, weakL_nil, weakL_unk, weakL_guess, isRow_own, isRow_unk, weakL_int, weakL_bool, weakL_str, weakL_own, weakL_view, weakL_nilS, noRow_int, noRow_bool, own_inj, LTree.val, cond_true, cond_false, Prod.mk.injEq, List.cons.injEq, AV.int.injEq, AV.bool.injEq, AV.str.injEq, AV.agg.injEq]; done) | (simp_all; done)
    · rw [if_neg hk3]
      have ho := lenF_ok (hl hk3)
      have hc := addF_ok hab ho
      generalize addF a b A1 A2 = q at *
      obtain ⟨⟨q1, q2⟩, q3⟩ := q
      dsimp only at *
      by_cases h0 : q3 = 0
      · rw [if_pos h0]
        repeat' first | apply And.intro | intro _
        all_goals first | omega | assumption | trivial | exact hg _ ‹_› | (simp [Tree.ok, packAV, AV.same, AV.same.sameL, encV, encS, enc, inK, Nd.ok, List.headD_cons, List.cons_append, List.nil_append, List.append_nil, true_and, and_true, Bool.true_and, Bool.and_true, loop_next, weakBs_nil, weakBs_cons, weakB_self, weakB_row, weakB_int, weakL_nil, weakL_unk, weakL_guess, isRow_own, isRow_unk, weakL_int, weakL_bool, weakL_str, weakL_own, weakL_view, weakL_nilS, noRow_int, noRow_bool, own_inj, LTree.val, cond_true, cond_false, Prod.mk.injEq, List.cons.injEq, AV.int.injEq, AV.bool.injEq, AV.str.injEq, AV.agg.injEq]; done) | (simp_all; done)
      · rw [if_neg h0]
        have h2 : q3 = 2 := by omega
        repeat' first | apply And.intro | intro _
        all_goals first | omega | assumption | trivial | exact hg _ ‹_› | (simp [Tree.ok, packAV, AV.same, AV.same.sameL, encV, encS, enc, inK, Nd.ok, List.headD_cons, List.cons_append, List.nil_append, List.append_nil, true_and, and_true, Bool.true_and, Bool.and_true, loop_next, weakBs_nil, weakBs_cons, weakB_self, weakB_row, weakB_int, weakL_nil, weakL_unk, weakL_guess, isRow_own, isRow_unk, weakL_int, weakL_bool, weakL_str, weakL_own, weakL_view, weakL_nilS, noRow_int, noRow_bool, own_inj, LTree.val, cond_true, cond_false, Prod.mk.injEq, List.cons.injEq, AV.int.injEq, AV.bool.injEq, AV.str.injEq, AV.agg.injEq]; done) | (simp_all; done) | (simp [Tree.ok, packAV, AV.same, AV.same.sameL, encV, encS, enc, inK, Nd.ok, List.headD_cons, List.cons_append, List.nil_append, List.append_nil, true_and, and_true, Bool.true_and, Bool.and_true, loop_next, weakBs_nil, weakBs_cons, weakB_self, weakB_row, weakB_int, weakL_nil, weakL_unk, weakL_guess, isRow_own, isRow_unk, weakL_int, weakL_bool, weakL_str, weakL_own, weakL_view, weakL_nilS, noRow_int, noRow_bool, own_inj, LTree.val, cond_true, cond_false, Prod.mk.injEq, List.cons.injEq, AV.int.injEq, AV.bool.injEq, AV.str.injEq, AV.agg.injEq, *]; done)
  · rw [show k.toNat = fs.length by omega, List.drop_length]
    simp [Tree.ok, packAV, AV.same, AV.same.sameL, encV, encS, enc, inK, Nd.ok, List.headD_cons, List.cons_append, List.nil_append, List.append_nil, true_and, and_true, Bool.true_and, Bool.and_true, loop_next, weakBs_nil, weakBs_cons, weakB_self, weakB_row, weakB_int, weakL_nil, weakL_unk, weakL_guess, isRow_own, isRow_unk, weakL_int, weakL_bool, weakL_str, weakL_own, weakL_view, weakL_nilS, noRow_int, noRow_bool, own_inj, LTree.val, cond_true, cond_false, Prod.mk.injEq, List.cons.injEq, AV.int.injEq, AV.bool.injEq, AV.str.injEq, AV.agg.injEq, lenGo]
theorem loops_iLengthOfItems : ∀ c, Try.f28.body = some c → LoopsOk Try.prog (addL (firstId (loopAt Try.f28 0)) ann_iLengthOfItems_0 noL) Try.f28.ntmps c := loopsN fun i hi ann h => by
  have hn : loopN Try.f28 = 1 := by kernel_rfl
  rw [hn] at hi
  exact match i, hi, h with
    | 0, _, h => (Option.some.inj ((show (addL (firstId (loopAt Try.f28 0)) ann_iLengthOfItems_0 noL) (firstId (loopAt Try.f28 0)) = some ann_iLengthOfItems_0 from by kernel_rfl).symm.trans h)) ▸ loop_iLengthOfItems_0
set_option maxHeartbeats 1000000 in
theorem sat_iLengthOfItems : Sat Try.prog 28 ct_iLengthOfItems := by
  refine sat_typed (C := C_Hf_4) (L := (addL (firstId (loopAt Try.f28 0)) ann_iLengthOfItems_0 noL)) (wr := false) mixedOk Try.func28 C_Hf_4_ok (loops_iLengthOfItems) (fun _ => by first | rfl | (simp [ownsOf, ownsOf.ownsL, enc, encV, encS])) fun x hp => ?_
  obtain ⟨(l : List tItem.den), _⟩ := x
  replace hp : (l.length : Int) ≤ 9223372036854775807 ∧ ∀ z ∈ l, pLen z.2.1 ≤ 9223372036854775807 := hp
  have htree : exFunc Try.prog C_Hf_4 false (addL (firstId (loopAt Try.f28 0)) ann_iLengthOfItems_0 noL) Try.f28 (encA [.v qItem] (l, ())) = .need ((↑l.length : Int) ≤ (9223372036854775807 : Int) ∧ ∀ (z : tItem.den), z ∈ l → pLen z.snd.fst ≤ (9223372036854775807 : Int)) (.ite ((flatA l).snd != (0 : Int)) (.leaf [.agg [.int .i64 ((0 : Int)), .int .i64 ((0 : Int))], .int .i64 ((flatA l).snd)]) (.need ((((0 : Int) ≤ (0 : Int) ∧ (0 : Int) ≤ (↑(List.length (flatA l).fst) : Int)) ∧ (↑(List.length (flatA l).fst) : Int) = (↑(List.length (flatA l).fst) : Int) ∧ (↑(List.length (flatA l).fst) : Int) ≤ (80 : Int)) ∧ okF (0 : Int) (1 : Int) = true ∧ ∀ (y : ((Ty.int IntKind.i64).pair (((Ty.int IntKind.i64).pair ((Ty.int IntKind.i64).pair (Ty.int IntKind.i64))).seq.pair (((Ty.int IntKind.i64).pair (Ty.int IntKind.i64)).pair ((Ty.int IntKind.i64).pair (((Ty.int IntKind.i64).pair (Ty.int IntKind.i64)).pair (Ty.int IntKind.i64)))))).den), y ∈ (flatA l).fst → gdI y) (.ite (decide ((lenGo (List.drop (Int.toNat (0 : Int)) (flatA l).fst) ((0 : Int), (1 : Int))).snd = (0 : Int))) (.leaf [.agg [.int .i64 ((lenGo (List.drop (Int.toNat (0 : Int)) (flatA l).fst) ((0 : Int), (1 : Int))).fst.fst), .int .i64 ((lenGo (List.drop (Int.toNat (0 : Int)) (flatA l).fst) ((0 : Int), (1 : Int))).fst.snd)], .int .i64 ((0 : Int))]) (.leaf [.agg [.int .i64 ((0 : Int)), .int .i64 ((0 : Int))], .int .i64 ((2 : Int))])))) := by kernel_rfl
  refine (congrArg (Tree.ok _) htree).mpr ?_
  clear htree
  have hgd := flatA_gd l
  have e1 : okF 0 1 = true := by decide
  simp only [Tree.ok, packAV, AV.same, AV.same.sameL, encV, encS, enc, inK, Nd.ok, List.headD_cons, List.cons_append, List.nil_append, List.append_nil, true_and, and_true, Bool.true_and, Bool.and_true, lenF2, Int.toNat_zero, List.drop_zero, decide_eq_true_eq, decide_eq_false_iff_not, bne_iff_ne, ne_eq, bne_eq_false_iff_eq]
  have hgc := lenGo_code (flatA l).1 (0, 1)
  generalize flatA l = F at *
  obtain ⟨F, c⟩ := F
  dsimp only at *
  generalize lenGo F (0, 1) = q at *
  by_cases h0 : c = 0
  · rw [if_pos h0]
    repeat' first | apply And.intro | intro _
    all_goals first | omega | exact hp.1 | exact hp.2 _ ‹_› | exact hgd.1 _ ‹_› | exact hgd.2 | assumption | trivial | contradiction | (simp_all; done) | (simp_all; omega)
  · rw [if_neg h0]
    repeat' first | apply And.intro | intro _
    all_goals first | omega | exact hp.1 | exact hp.2 _ ‹_› | exact hgd.1 _ ‹_› | exact hgd.2 | assumption | trivial | contradiction | (simp_all; done) | (simp_all; omega)
def C_Hf_5 : FuncId → Option Ct := addC 28 ct_iLengthOfItems C_Hf_4
theorem C_Hf_5_ok : COk Try.prog C_Hf_5 := addC_ok C_Hf_4_ok sat_iLengthOfItems
def ann_sLengthOfItems_0 : LAnn := { sameS := [2, 4, 6], modS := [3, 7], sameH := [12], modH := [2, 6], base := 900000, nilE := [], nilB := [], G := fun
  | ⟨[.ptr 2 0, .row 12, .ptr 6 0], [.row (.pair (.int .i64) (.pair (.seq (.pair (.int .i64) (.pair (.int .i64) (.int .i64)))) (.pair (.pair (.int .i64) (.int .i64)) (.pair (.int .i64) (.pair (.pair (.int .i64) (.int .i64)) (.int .i64)))))) fs], [.int .i64 c, .int .i64 k], [[.int .i64 z1, .int .i64 z2], [.int .i64 a, .int .i64 b]]⟩ => some (.p (((0 ≤ k ∧ k ≤ (fs.length : Int)) ∧ (fs.length : Int) ≤ 80) ∧ okF a b = true ∧ ∀ y ∈ fs, gdI y), .ite (decide ((lenGo (fs.drop k.toNat) (a, b)).2 = 0)) (.leaf (.exit 0) [.int .i64 c, .unk] [[.int .i64 z1, .int .i64 z2], [.int .i64 (lenGo (fs.drop k.toNat) (a, b)).1.1, .int .i64 (lenGo (fs.drop k.toNat) (a, b)).1.2]]) (.leaf .ret [.int .i64 2, .unk] [[.int .i64 0, .int .i64 0], [.unk, .unk]]))
  | _ => none }
def ct_sLengthOfItems : Ct := ctOf [.v qItem] (fun ((l : List tItem.den), _) => .p ((l.length : Int) ≤ 9223372036854775807 ∧ ∀ z ∈ l, pLen z.2.1 ≤ 9223372036854775807)) (fun ((l : List tItem.den), _) => .tup [.agg (enc tFrac (lenF2 l).1), .int .i64 (lenF2 l).2])
set_option maxHeartbeats 1000000 in
theorem loop_sLengthOfItems_0 : LoopSat Try.prog Try.f26.ntmps (loopAt Try.f26 0) ann_sLengthOfItems_0 := by
  refine loopSat_of (C := C_Hf_5) (L := (addL (firstId (loopAt Try.f26 0)) ann_sLengthOfItems_0 noL)) (wr := false) mixedOk C_Hf_5_ok (loopsIn0 (by kernel_rfl)) (fun d => match d.blk, d.vals with | [.row _ fs], [_, .int _ k] => ((fs.length : Int) - k).toNat | _, _ => 0) fun d p t hG hp => ?_
  simp only [ann_sLengthOfItems_0] at hG
  split at hG
  rotate_left
  · simp at hG
  rename_i fs c k z1 z2 a b
  simp only [Option.some.injEq, Prod.mk.injEq] at hG
  obtain ⟨rfl, rfl⟩ := hG
  have htree : exRound Try.prog C_Hf_5 false (addL (firstId (loopAt Try.f26 0)) ann_sLengthOfItems_0 noL) Try.f26.ntmps ann_sLengthOfItems_0 (loopAt Try.f26 0) ⟨[.ptr 2 0, .row 12, .ptr 6 0], [.row tItem fs], [.int .i64 c, .int .i64 k], [[.int .i64 z1, .int .i64 z2], [.int .i64 a, .int .i64 b]]⟩ = .ite (decide (k < (↑fs.length : Int))) (.need ((0 : Int) ≤ k ∧ k < (↑fs.length : Int)) (.need (k.toNat < fs.length) (.ite ((fs.getD k.toNat tItem.zero).fst == (3 : Int)) (.need (inK IntKind.i64 (k + (1 : Int))) (.leaf (.normal, ⟨[.ptr 2 0, .row 12, .ptr 6 0], [.row (I64.pair (tPitch.seq.pair (tFrac.pair (I64.pair (tIv.pair I64))))) (fs)], [.int .i64 (c), .int .i64 (k + (1 : Int))], [[.int .i64 (z1), .int .i64 (z2)], [.int .i64 (a), .int .i64 (b)]]⟩))) (.need ((0 : Int) ≤ k ∧ k < (↑fs.length : Int)) (.need (k.toNat < fs.length) (.ite (!decide ((addF a b (fs.getD k.toNat tItem.zero).snd.snd.fst.fst (fs.getD k.toNat tItem.zero).snd.snd.fst.snd).snd = (0 : Int))) (.leaf (.ret, ⟨[.ptr 2 0, .row 12, .ptr 6 0], [.row (I64.pair (tPitch.seq.pair (tFrac.pair (I64.pair (tIv.pair I64))))) (fs)], [.int .i64 ((2 : Int)), .int .i64 (k)], [[.int .i64 ((0 : Int)), .int .i64 ((0 : Int))], [.int .i64 (a), .int .i64 (b)]]⟩)) (.need (inK IntKind.i64 (k + (1 : Int))) (.leaf (.normal, ⟨[.ptr 2 0, .row 12, .ptr 6 0], [.row (I64.pair (tPitch.seq.pair (tFrac.pair (I64.pair (tIv.pair I64))))) (fs)], [.int .i64 (c), .int .i64 (k + (1 : Int))], [[.int .i64 (z1), .int .i64 (z2)], [.int .i64 ((addF a b (fs.getD k.toNat tItem.zero).snd.snd.fst.fst (fs.getD k.toNat tItem.zero).snd.snd.fst.snd).fst.fst), .int .i64 ((addF a b (fs.getD k.toNat tItem.zero).snd.snd.fst.fst (fs.getD k.toNat tItem.zero).snd.snd.fst.snd).fst.snd)]]⟩))))))))) (.leaf ((.exit 0), ⟨[.ptr 2 0, .row 12, .ptr 6 0], [.row (I64.pair (tPitch.seq.pair (tFrac.pair (I64.pair (tIv.pair I64))))) (fs)], [.int .i64 (c), .int .i64 (k)], [[.int .i64 (z1), .int .i64 (z2)], [.int .i64 (a), .int .i64 (b)]]⟩)) := by kernel_rfl
  rw [htree]
  clear htree
  replace hp : ((0 ≤ k ∧ k ≤ (fs.length : Int)) ∧ (fs.length : Int) ≤ 80) ∧ okF a b = true ∧ ∀ y ∈ fs, gdI y := hp
  obtain ⟨⟨hk, h80⟩, hab, hg⟩ := hp
  simp only [Tree.ok, packAV, AV.same, AV.same.sameL, encV, encS, enc, inK, Nd.ok, List.headD_cons, List.cons_append, List.nil_append, List.append_nil, true_and, and_true, Bool.true_and, Bool.and_true, loop_next, weakBs_nil, weakBs_cons, weakB_self, weakB_row, weakB_int, weakL_nil, weakL_unk, weakL_guess, isRow_own, isRow_unk, weakL_int, weakL_bool, weakL_str, weakL_own, weakL_view, weakL_nilS, noRow_int, noRow_bool, own_inj, LTree.val, cond_true, cond_false, Prod.mk.injEq, List.cons.injEq, AV.int.injEq, AV.bool.injEq, AV.str.injEq, AV.agg.injEq, ann_sLengthOfItems_0, decide_eq_true_eq, decide_eq_false_iff_not, bne_iff_ne, ne_eq, bne_eq_false_iff_eq, Bool.or_eq_true, Bool.or_eq_false_iff]
  refine ⟨fun ha => ?_, fun ha => ?_⟩
  · have h1 := lenGo_at fs k.toNat (by omega) (a, b)
    have hy := mem_at hg k.toNat tItem.zero (by omega)
    simp only at h1
    rw [show (k + 1).toNat = k.toNat + 1 by omega, h1]
    clear h1
    obtain ⟨K, P, A1, A2, V1, M1, M2, Z1, he⟩ := i8 (fs.getD k.toNat tItem.zero)
    simp only [he] at *
    have hK : K = 1 ∨ K = 2 ∨ K = 3 := hy.1
    have hl : K ≠ 3 → lenF A1 A2 = true := hy.2
    generalize fs.drop (k.toNat + 1) = T at *
    by_cases hk3 : K = 3
    · rw [if_pos hk3]
      repeat' first | apply And.intro | intro _
      all_goals first | omega | assumption | trivial | exact hg _ ‹_› | (simp [Tree.ok, packAV, AV.same, AV.same.sameL, encV, encS, enc, inK, Nd.ok, List.headD_cons, List.cons_append, List.nil_append, List.append_nil, true_and, and_true, Bool.true_and, Bool.and_true, loop_next, weakBs_nil, weakBs_cons, weakB_self, weakB_row, weakB_int, weakL_nil, weakL_unk, weakL_guess, isRow_own, isRow_unk, weakL_int, weakL_bool, weakL_str, weakL_own, weakL_view, weakL_nilS, noRow_int, noRow_bool, own_inj, LTree.val, cond_true, cond_false, Prod.mk.injEq, List.cons.injEq, AV.int.injEq, AV.bool.injEq, AV.str.injEq, AV.agg.injEq]; done) | (simp_all; done)
    · rw [if_neg hk3]
      have ho := lenF_ok (hl hk3)
      have hc := addF_ok hab ho
      generalize addF a b A1 A2 = q at *
      obtain ⟨⟨q1, q2⟩, q3⟩ := q
      dsimp only at *
      by_cases h0 : q3 = 0
      · rw [if_pos h0]
        repeat' first | apply And.intro | intro _
        all_goals first | omega | assumption | trivial | exact hg _ ‹_› | (simp [Tree.ok, packAV, AV.same, AV.same.sameL, encV, encS, enc, inK, Nd.ok, List.headD_cons, List.cons_append, List.nil_append, List.append_nil, true_and, and_true, Bool.true_and, Bool.and_true, loop_next, weakBs_nil, weakBs_cons, weakB_self, weakB_row, weakB_int, weakL_nil, weakL_unk, weakL_guess, isRow_own, isRow_unk, weakL_int, weakL_bool, weakL_str, weakL_own, weakL_view, weakL_nilS, noRow_int, noRow_bool, own_inj, LTree.val, cond_true, cond_false, Prod.mk.injEq, List.cons.injEq, AV.int.injEq, AV.bool.injEq, AV.str.injEq, AV.agg.injEq]; done) | (simp_all; done)
      · rw [if_neg h0]
        have h2 : q3 = 2 := by omega
        repeat' first | apply And.intro | intro _
        all_goals first | omega | assumption | trivial | exact hg _ ‹_› | (simp [Tree.ok, packAV, AV.same, AV.same.sameL, encV, encS, enc, inK, Nd.ok, List.headD_cons, List.cons_append, List.nil_append, List.append_nil, true_and, and_true, Bool.true_and, Bool.and_true, loop_next, weakBs_nil, weakBs_cons, weakB_self, weakB_row, weakB_int, weakL_nil, weakL_unk, weakL_guess, isRow_own, isRow_unk, weakL_int, weakL_bool, weakL_str, weakL_own, weakL_view, weakL_nilS, noRow_int, noRow_bool, own_inj, LTree.val, cond_true, cond_false, Prod.mk.injEq, List.cons.injEq, AV.int.injEq, AV.bool.injEq, AV.str.injEq, AV.agg.injEq]; done) | (simp_all; done) | (simp [Tree.ok, packAV, AV.same, AV.same.sameL, encV, encS, enc, inK, Nd.ok, List.headD_cons, List.cons_append, List.nil_append, List.append_nil, true_and, and_true, Bool.true_and, Bool.and_true, loop_next, weakBs_nil, weakBs_cons, weakB_self, weakB_row, weakB_int, weakL_nil, weakL_unk, weakL_guess, isRow_own, isRow_unk, weakL_int, weakL_bool, weakL_str, weakL_own, weakL_view, weakL_nilS, noRow_int, noRow_bool, own_inj, LTree.val, cond_true, cond_false, Prod.mk.injEq, List.cons.injEq, AV.int.injEq, AV.bool.injEq, AV.str.injEq, AV.agg.injEq, *]; done)
  · rw [show k.toNat = fs.length by omega, List.drop_length]
    simp [Tree.ok, packAV, AV.same, AV.same.sameL, encV, encS, enc, inK, Nd.ok, List.headD_cons, List.cons_append, List.nil_append, List.append_nil, true_and, and_true, Bool.true_and, Bool.and_true, loop_next, weakBs_nil, weakBs_cons, weakB_self, weakB_row, weakB_int, weakL_nil, weakL_unk, weakL_guess, isRow_own, isRow_unk, weakL_int, weakL_bool, weakL_str, weakL_own, weakL_view, weakL_nilS, noRow_int, noRow_bool, own_inj, LTree.val, cond_true, cond_false, Prod.mk.injEq, List.cons.injEq, AV.int.injEq, AV.bool.injEq, AV.str.injEq, AV.agg.injEq, lenGo]
theorem loops_sLengthOfItems : ∀ c, Try.f26.body = some c → LoopsOk Try.prog (addL (firstId (loopAt Try.f26 0)) ann_sLengthOfItems_0 noL) Try.f26.ntmps c := loopsN fun i hi ann h => by
  have hn : loopN Try.f26 = 1 := by kernel_rfl
  rw [hn] at hi
  exact match i, hi, h with
    | 0, _, h => (Option.some.inj ((show (addL (firstId (loopAt Try.f26 0)) ann_sLengthOfItems_0 noL) (firstId (loopAt Try.f26 0)) = some ann_sLengthOfItems_0 from by kernel_rfl).symm.trans h)) ▸ loop_sLengthOfItems_0
set_option maxHeartbeats 1000000 in
theorem sat_sLengthOfItems : Sat Try.prog 26 ct_sLengthOfItems := by
  refine sat_typed (C := C_Hf_5) (L := (addL (firstId (loopAt Try.f26 0)) ann_sLengthOfItems_0 noL)) (wr := false) mixedOk Try.func26 C_Hf_5_ok (loops_sLengthOfItems) (fun _ => by first | rfl | (simp [ownsOf, ownsOf.ownsL, enc, encV, encS])) fun x hp => ?_
  obtain ⟨(l : List tItem.den), _⟩ := x
  replace hp : (l.length : Int) ≤ 9223372036854775807 ∧ ∀ z ∈ l, pLen z.2.1 ≤ 9223372036854775807 := hp
  have htree : exFunc Try.prog C_Hf_5 false (addL (firstId (loopAt Try.f26 0)) ann_sLengthOfItems_0 noL) Try.f26 (encA [.v qItem] (l, ())) = .need ((↑l.length : Int) ≤ (9223372036854775807 : Int) ∧ ∀ (z : tItem.den), z ∈ l → pLen z.snd.fst ≤ (9223372036854775807 : Int)) (.ite ((flatA l).snd != (0 : Int)) (.leaf [.agg [.int .i64 ((0 : Int)), .int .i64 ((0 : Int))], .int .i64 ((flatA l).snd)]) (.need ((((0 : Int) ≤ (0 : Int) ∧ (0 : Int) ≤ (↑(List.length (flatA l).fst) : Int)) ∧ (↑(List.length (flatA l).fst) : Int) ≤ (80 : Int)) ∧ okF (0 : Int) (1 : Int) = true ∧ ∀ (y : ((Ty.int IntKind.i64).pair (((Ty.int IntKind.i64).pair ((Ty.int IntKind.i64).pair (Ty.int IntKind.i64))).seq.pair (((Ty.int IntKind.i64).pair (Ty.int IntKind.i64)).pair ((Ty.int IntKind.i64).pair (((Ty.int IntKind.i64).pair (Ty.int IntKind.i64)).pair (Ty.int IntKind.i64)))))).den), y ∈ (flatA l).fst → gdI y) (.ite (decide ((lenGo (List.drop (Int.toNat (0 : Int)) (flatA l).fst) ((0 : Int), (1 : Int))).snd = (0 : Int))) (.leaf [.agg [.int .i64 ((lenGo (List.drop (Int.toNat (0 : Int)) (flatA l).fst) ((0 : Int), (1 : Int))).fst.fst), .int .i64 ((lenGo (List.drop (Int.toNat (0 : Int)) (flatA l).fst) ((0 : Int), (1 : Int))).fst.snd)], .int .i64 ((0 : Int))]) (.leaf [.agg [.int .i64 ((0 : Int)), .int .i64 ((0 : Int))], .int .i64 ((2 : Int))])))) := by kernel_rfl
  refine (congrArg (Tree.ok _) htree).mpr ?_
  clear htree
  have hgd := flatA_gd l
  have e1 : okF 0 1 = true := by decide
  simp only [Tree.ok, packAV, AV.same, AV.same.sameL, encV, encS, enc, inK, Nd.ok, List.headD_cons, List.cons_append, List.nil_append, List.append_nil, true_and, and_true, Bool.true_and, Bool.and_true, lenF2, Int.toNat_zero, List.drop_zero, decide_eq_true_eq, decide_eq_false_iff_not, bne_iff_ne, ne_eq, bne_eq_false_iff_eq]
  have hgc := lenGo_code (flatA l).1 (0, 1)
  generalize flatA l = F at *
  obtain ⟨F, c⟩ := F
  dsimp only at *
  generalize lenGo F (0, 1) = q at *
  by_cases h0 : c = 0
  · rw [if_pos h0]
    repeat' first | apply And.intro | intro _
    all_goals first | omega | exact hp.1 | exact hp.2 _ ‹_› | exact hgd.1 _ ‹_› | exact hgd.2 | assumption | trivial | contradiction | (simp_all; done) | (simp_all; omega)
  · rw [if_neg h0]
    repeat' first | apply And.intro | intro _
    all_goals first | omega | exact hp.1 | exact hp.2 _ ‹_› | exact hgd.1 _ ‹_› | exact hgd.2 | assumption | trivial | contradiction | (simp_all; done) | (simp_all; omega)
def C_Hf_6 : FuncId → Option Ct := addC 26 ct_sLengthOfItems C_Hf_5
theorem C_Hf_6_ok : COk Try.prog C_Hf_6 := addC_ok C_Hf_5_ok sat_sLengthOfItems
def ct_lawLengthOfItems : Ct := ctOf [.v qItem] (fun ((xs : List tItem.den), _) => .p ((xs.length : Int) ≤ 9223372036854775807 ∧ ∀ z ∈ xs, pLen z.2.1 ≤ 9223372036854775807)) (fun ((xs : List tItem.den), _) => .bool true)
set_option maxHeartbeats 1000000 in
theorem sat_lawLengthOfItems : Sat Try.prog 5 ct_lawLengthOfItems := by
  refine sat_typed (C := C_Hf_6) (L := noL) (wr := false) mixedOk Try.func5 C_Hf_6_ok (loops0 (by kernel_rfl)) (fun _ => by first | rfl | (simp [ownsOf, ownsOf.ownsL, enc, encV, encS])) fun x hp => ?_
  obtain ⟨(xs : List tItem.den), _⟩ := x
  replace hp : (xs.length : Int) ≤ 9223372036854775807 ∧ ∀ z ∈ xs, pLen z.2.1 ≤ 9223372036854775807 := hp
  have htree : exFunc Try.prog C_Hf_6 false noL Try.f5 (encA [.v qItem] (xs, ())) = .need ((((0 : Int) ≤ (1048576 : Int) ∧ (1048576 : Int) ≤ (1048576 : Int)) ∧ (↑xs.length : Int) ≤ (9223372036854775807 : Int)) ∧ ∀ (z : tItem.den), z ∈ xs → pLen z.snd.fst ≤ (9223372036854775807 : Int)) (.ite (decide ((if (1048576 : Int) - (↑xs.length : Int) < (0 : Int) then (-1 : Int) else szIt xs ((1048576 : Int) - (↑xs.length : Int))) < (0 : Int))) (.leaf [.lit true]) (.need (xs.length ≤ (16777216 : Nat) ∧ ∀ (z : tItem.den), z ∈ xs → pLen z.snd.fst ≤ (16777216 : Int)) (.need ((↑xs.length : Int) ≤ (9223372036854775807 : Int) ∧ ∀ (z : tItem.den), z ∈ xs → pLen z.snd.fst ≤ (9223372036854775807 : Int)) (.need (xs.length ≤ (16777216 : Nat) ∧ ∀ (z : tItem.den), z ∈ xs → pLen z.snd.fst ≤ (16777216 : Int)) (.need ((↑xs.length : Int) ≤ (9223372036854775807 : Int) ∧ ∀ (z : tItem.den), z ∈ xs → pLen z.snd.fst ≤ (9223372036854775807 : Int)) (.ite (!decide ((lenF2 xs).fst.fst = (lenF2 xs).fst.fst ∧ (lenF2 xs).fst.snd = (lenF2 xs).fst.snd)) (.leaf [.lit false]) (.ite ((lenF2 xs).snd != (lenF2 xs).snd) (.leaf [.lit false]) (.need (xs.length ≤ (16777216 : Nat) ∧ ∀ (z : tItem.den), z ∈ xs → pLen z.snd.fst ≤ (16777216 : Int)) (.need ((↑xs.length : Int) ≤ (9223372036854775807 : Int) ∧ ∀ (z : tItem.den), z ∈ xs → pLen z.snd.fst ≤ (9223372036854775807 : Int)) (.ite (!decide (xs = xs)) (.leaf [.lit false]) (.leaf [.lit true]))))))))))) := by kernel_rfl
  refine (congrArg (Tree.ok _) htree).mpr ?_
  clear htree
  simp only [Tree.ok, packAV, AV.same, AV.same.sameL, encV, encS, enc, inK, Nd.ok, List.headD_cons, List.cons_append, List.nil_append, List.append_nil, true_and, and_true, Bool.true_and, Bool.and_true]
  obtain ⟨hx, hqx⟩ := hp
  by_cases h1 : (1048576 : Int) - (xs.length : Int) < 0
  · simp only [if_pos h1]
    repeat' first | apply And.intro | intro _
    all_goals first | omega | trivial | exact hqx _ ‹_› | (simp_all; done)
  · simp only [if_neg h1]
    have h2 := szIt_low xs (1048576 - (xs.length : Int)) (by omega)
    have h3 := szIt_bound xs (1048576 - (xs.length : Int)) (by omega)
    revert h2 h3
    generalize szIt xs (1048576 - (xs.length : Int)) = s
    intro h2 h3
    generalize lenF2 xs = V
    by_cases h4 : s < 0
    · rw [decide_eq_true h4]
      repeat' first | apply And.intro | intro _
      all_goals first | omega | trivial | exact hqx _ ‹_› | (simp_all; done)
    · obtain ⟨h5, h6⟩ := h3 h4
      repeat' first | apply And.intro | intro _
      all_goals first | omega | trivial | exact hqx _ ‹_› | (have := h6 _ ‹_›; omega) | (simp_all; done)
def C_Hf_7 : FuncId → Option Ct := addC 5 ct_lawLengthOfItems C_Hf_6
theorem C_Hf_7_ok : COk Try.prog C_Hf_7 := addC_ok C_Hf_6_ok sat_lawLengthOfItems

def C_Hf : FuncId → Option Ct := C_Hf_7
theorem C_Hf_ok : COk Try.prog C_Hf := C_Hf_7_ok
end Go.Proofs.Ytdglkoeojhakhaa
