/- Contracts: repetitions in lists of items, of the program and the reference. Conditions: as each says. -/
import Derived.Test.YtemlpimibhijoaaJm
import Derived.Test.YtemlpimibhijoaaJoL
set_option linter.unusedSimpArgs false
set_option linter.unusedVariables false
namespace Go.Proofs.Ytemlpimibhijoaa
open Go.RowKit Sx
set_option maxRecDepth 100000
set_option maxHeartbeats 1000000
def C_JoB : FuncId → Option Ct := addC 84 ct_l19Same C_Jm
theorem C_JoB_ok : COk Try.prog C_JoB := addC_ok C_Jm_ok sat_l19Same
theorem it_ext (x y : It) : (x.1 = y.1 ∧ x.2.1 = y.2.1 ∧ (x.2.2.1.1 = y.2.2.1.1 ∧ x.2.2.1.2 = y.2.2.1.2) ∧ x.2.2.2.1 = y.2.2.2.1 ∧ (x.2.2.2.2.1.1 = y.2.2.2.2.1.1 ∧ x.2.2.2.2.1.2 = y.2.2.2.2.1.2) ∧ x.2.2.2.2.2 = y.2.2.2.2.2) ↔ x = y := by
  simp only [Prod.ext_iff]
theorem iA_drop (l : Its) (i k : Nat) : iA (l.drop i) k = iA l (i + k) := by
  simp [iA, List.getD_eq_getElem?_getD, List.getElem?_drop]
theorem iA_mem {l : Its} {Q : It → Prop} (h : ∀ z ∈ l, Q z) (i : Nat) (hi : i < l.length) : Q (iA l i) := h _ (by rw [iA, getD_lt _ _ _ hi]; exact List.getElem_mem _)
theorem getT_iA (l : Its) (i : Int) : getT tItem l i = iA l i.toNat := rfl
theorem mul_nn {a b : Int} (h1 : 0 ≤ a) (h2 : 0 ≤ b) : (a * b).toNat = a.toNat * b.toNat := by
  obtain ⟨n, rfl⟩ := Int.eq_ofNat_of_zero_le h1
  obtain ⟨m, rfl⟩ := Int.eq_ofNat_of_zero_le h2
  rw [← Int.natCast_mul]; rfl
def ann_repeats_0 : LAnn := { sameS := [0, 1, 2], modS := [6, 7], sameH := [], modH := [], base := 900000, nilE := [], nilB := [], G := fun
  | ⟨[.view (.pair (.int .i64) (.pair (.seq (.pair (.int .i64) (.pair (.int .i64) (.int .i64)))) (.pair (.pair (.int .i64) (.int .i64)) (.pair (.int .i64) (.pair (.pair (.int .i64) (.int .i64)) (.int .i64)))))) l, .int .i64 n, .int .i64 p], [], [.bool r, .int .i64 i], []⟩ => some (.p (((p ≤ i ∧ i ≤ n * p ∧ n * p ≤ (l.length : Int)) ∧ l.length ≤ 80 ∧ (1 ≤ p ∧ p ≤ 80)) ∧ ∀ z ∈ l, pLen z.2.1 ≤ 9223372036854775807), .ite (repGo l p.toNat ((n * p).toNat - i.toNat) i.toNat) (.leaf (.exit 0) [.bool r, .unk] []) (.leaf .ret [.bool false, .unk] []))
  | _ => none }
def ct_repeats : Ct := ctOf [.v qItem, .v (.int .i64), .v (.int .i64)] (fun ((l : List tItem.den), (n : Int), (p : Int), _) => .p ((l.length ≤ 80 ∧ (2 ≤ n ∧ n ≤ 8) ∧ (1 ≤ p ∧ p ≤ 80)) ∧ ∀ z ∈ l, pLen z.2.1 ≤ 9223372036854775807)) (fun ((l : List tItem.den), (n : Int), (p : Int), _) => .bool (repB l n.toNat p.toNat))
set_option maxHeartbeats 1000000 in
theorem loop_repeats_0 : LoopSat Try.prog Try.f86.ntmps (loopAt Try.f86 0) ann_repeats_0 := by
  refine loopSat_of (C := C_JoB) (L := (addL (firstId (loopAt Try.f86 0)) ann_repeats_0 noL)) (wr := false) mixedOk C_JoB_ok (loopsIn0 (by kernel_rfl)) (fun d => match d.same, d.vals with | [_, .int _ n, .int _ p], [_, .int _ i] => (n * p - i).toNat | _, _ => 0) fun d p t hG hp => ?_
  simp only [ann_repeats_0] at hG
  split at hG
  rotate_left
  · simp at hG
  rename_i l n p r i
  simp only [Option.some.injEq, Prod.mk.injEq] at hG
  obtain ⟨rfl, rfl⟩ := hG
  have htree : exRound Try.prog C_JoB false (addL (firstId (loopAt Try.f86 0)) ann_repeats_0 noL) Try.f86.ntmps ann_repeats_0 (loopAt Try.f86 0) ⟨[.view tItem l, .int .i64 n, .int .i64 p], [], [.bool r, .int .i64 i], []⟩ = .need (inK IntKind.i64 (n * p)) (.ite (decide (i < n * p)) (.need ((0 : Int) ≤ i ∧ i < (↑l.length : Int)) (.need (inK IntKind.i64 (i - p)) (.need ((0 : Int) ≤ i - p ∧ i - p < (↑l.length : Int)) (.need (pLen (getT tItem l i).snd.fst ≤ (9223372036854775807 : Int)) (.ite (!decide (((getT tItem l i).fst, (getT tItem l i).snd.fst, ((getT tItem l i).snd.snd.fst.fst, (getT tItem l i).snd.snd.fst.snd), (getT tItem l i).snd.snd.snd.fst, ((getT tItem l i).snd.snd.snd.snd.fst.fst, (getT tItem l i).snd.snd.snd.snd.fst.snd), (getT tItem l i).snd.snd.snd.snd.snd) = ((getT tItem l (i - p)).fst, (getT tItem l (i - p)).snd.fst, ((getT tItem l (i - p)).snd.snd.fst.fst, (getT tItem l (i - p)).snd.snd.fst.snd), (getT tItem l (i - p)).snd.snd.snd.fst, ((getT tItem l (i - p)).snd.snd.snd.snd.fst.fst, (getT tItem l (i - p)).snd.snd.snd.snd.fst.snd), (getT tItem l (i - p)).snd.snd.snd.snd.snd))) (.leaf (.ret, ⟨[.view (I64.pair (tPitch.seq.pair (tFrac.pair (I64.pair (tIv.pair I64))))) (l), .int .i64 (n), .int .i64 (p)], [], [.bool (false), .int .i64 (i)], []⟩)) (.need (inK IntKind.i64 (i + (1 : Int))) (.leaf (.normal, ⟨[.view (I64.pair (tPitch.seq.pair (tFrac.pair (I64.pair (tIv.pair I64))))) (l), .int .i64 (n), .int .i64 (p)], [], [.bool (r), .int .i64 (i + (1 : Int))], []⟩)))))))) (.leaf ((.exit 0), ⟨[.view (I64.pair (tPitch.seq.pair (tFrac.pair (I64.pair (tIv.pair I64))))) (l), .int .i64 (n), .int .i64 (p)], [], [.bool (r), .int .i64 (i)], []⟩))) := by kernel_rfl
  rw [htree]
  clear htree
  replace hp : ((p ≤ i ∧ i ≤ n * p ∧ n * p ≤ (l.length : Int)) ∧ l.length ≤ 80 ∧ (1 ≤ p ∧ p ≤ 80)) ∧ ∀ z ∈ l, pLen z.2.1 ≤ 9223372036854775807 := hp
  obtain ⟨⟨hi, hl, hpp⟩, hq⟩ := hp
  simp only [Tree.ok, tyd_inj, packAV, AV.same, AV.same.sameL, encV, encS, enc, inK, Nd.ok, List.headD_cons, List.cons_append, List.nil_append, List.append_nil, true_and, and_true, Bool.true_and, Bool.and_true, loop_next, weakBs_nil, weakBs_cons, weakB_self, weakB_row, weakB_int, weakL_nil, weakL_unk, weakL_guess, isRow_own, isRow_unk, weakL_int, weakL_bool, weakL_str, weakL_own, weakL_view, weakL_nilS, noRow_int, noRow_bool, own_inj, LTree.val, cond_true, cond_false, Prod.mk.injEq, List.cons.injEq, AV.int.injEq, AV.bool.injEq, AV.str.injEq, AV.agg.injEq, ann_repeats_0, decide_eq_true_eq, decide_eq_false_iff_not, bne_iff_ne, ne_eq, bne_eq_false_iff_eq, Bool.not_eq_true', Bool.not_eq_false', getT_iA]
  generalize n * p = m at *
  refine ⟨by omega, fun ha => ?_, fun ha => ?_⟩
  · have h1 := repGo_step l p.toNat i.toNat m.toNat (by omega)
    have hm := iA_mem hq i.toNat (by omega)
    rw [h1, show (i + 1).toNat = i.toNat + 1 by omega, show (i - p).toNat = i.toNat - p.toNat by omega]
    clear h1
    generalize repGo l p.toNat (m.toNat - (i.toNat + 1)) (i.toNat + 1) = b2
    by_cases hE : iA l i.toNat = iA l (i.toNat - p.toNat)
    · rw [decide_eq_true hE, Bool.true_and]
      cases b2
      all_goals
        repeat' first | apply And.intro | intro _
        all_goals first | omega | assumption | trivial | contradiction | exact hq _ ‹_› | exact absurd ((it_ext _ _).2 hE) (by assumption) | (simp [Tree.ok, tyd_inj, packAV, AV.same, AV.same.sameL, encV, encS, enc, inK, Nd.ok, List.headD_cons, List.cons_append, List.nil_append, List.append_nil, true_and, and_true, Bool.true_and, Bool.and_true, loop_next, weakBs_nil, weakBs_cons, weakB_self, weakB_row, weakB_int, weakL_nil, weakL_unk, weakL_guess, isRow_own, isRow_unk, weakL_int, weakL_bool, weakL_str, weakL_own, weakL_view, weakL_nilS, noRow_int, noRow_bool, own_inj, LTree.val, cond_true, cond_false, Prod.mk.injEq, List.cons.injEq, AV.int.injEq, AV.bool.injEq, AV.str.injEq, AV.agg.injEq]; done)
    · rw [decide_eq_false hE, Bool.false_and]
      repeat' first | apply And.intro | intro _
      all_goals first | omega | assumption | trivial | contradiction | exact hq _ ‹_› | exact absurd ((it_ext _ _).1 (by assumption)) hE | (simp [Tree.ok, tyd_inj, packAV, AV.same, AV.same.sameL, encV, encS, enc, inK, Nd.ok, List.headD_cons, List.cons_append, List.nil_append, List.append_nil, true_and, and_true, Bool.true_and, Bool.and_true, loop_next, weakBs_nil, weakBs_cons, weakB_self, weakB_row, weakB_int, weakL_nil, weakL_unk, weakL_guess, isRow_own, isRow_unk, weakL_int, weakL_bool, weakL_str, weakL_own, weakL_view, weakL_nilS, noRow_int, noRow_bool, own_inj, LTree.val, cond_true, cond_false, Prod.mk.injEq, List.cons.injEq, AV.int.injEq, AV.bool.injEq, AV.str.injEq, AV.agg.injEq]; done)
  · rw [show m.toNat - i.toNat = 0 by omega]
    simp [Tree.ok, tyd_inj, packAV, AV.same, AV.same.sameL, encV, encS, enc, inK, Nd.ok, List.headD_cons, List.cons_append, List.nil_append, List.append_nil, true_and, and_true, Bool.true_and, Bool.and_true, loop_next, weakBs_nil, weakBs_cons, weakB_self, weakB_row, weakB_int, weakL_nil, weakL_unk, weakL_guess, isRow_own, isRow_unk, weakL_int, weakL_bool, weakL_str, weakL_own, weakL_view, weakL_nilS, noRow_int, noRow_bool, own_inj, LTree.val, cond_true, cond_false, Prod.mk.injEq, List.cons.injEq, AV.int.injEq, AV.bool.injEq, AV.str.injEq, AV.agg.injEq, repGo]
theorem loops_repeats : ∀ c, Try.f86.body = some c → LoopsOk Try.prog (addL (firstId (loopAt Try.f86 0)) ann_repeats_0 noL) Try.f86.ntmps c := loopsN fun i hi ann h => by
  have hn : loopN Try.f86 = 1 := by kernel_rfl
  rw [hn] at hi
  exact match i, hi, h with
    | 0, _, h => (Option.some.inj ((show (addL (firstId (loopAt Try.f86 0)) ann_repeats_0 noL) (firstId (loopAt Try.f86 0)) = some ann_repeats_0 from by kernel_rfl).symm.trans h)) ▸ loop_repeats_0
set_option maxHeartbeats 1000000 in
theorem sat_repeats : Sat Try.prog 86 ct_repeats := by
  refine sat_typed (C := C_JoB) (L := (addL (firstId (loopAt Try.f86 0)) ann_repeats_0 noL)) (wr := false) mixedOk Try.func86 C_JoB_ok (loops_repeats) (fun _ => by first | rfl | (simp [ownsOf, ownsOf.ownsL, enc, encV, encS])) fun x hp => ?_
  obtain ⟨(l : List tItem.den), (n : Int), (p : Int), _⟩ := x
  replace hp : (l.length ≤ 80 ∧ (2 ≤ n ∧ n ≤ 8) ∧ (1 ≤ p ∧ p ≤ 80)) ∧ ∀ z ∈ l, pLen z.2.1 ≤ 9223372036854775807 := hp
  have htree : exFunc Try.prog C_JoB false (addL (firstId (loopAt Try.f86 0)) ann_repeats_0 noL) Try.f86 (encA [.v qItem, .v (.int .i64), .v (.int .i64)] (l, n, p, ())) = .need (inK IntKind.i64 (n * p)) (.ite (decide ((↑l.length : Int) < n * p)) (.leaf [.lit false]) (.need (((p ≤ p ∧ p ≤ n * p ∧ n * p ≤ (↑l.length : Int)) ∧ l.length ≤ (80 : Nat) ∧ (1 : Int) ≤ p ∧ p ≤ (80 : Int)) ∧ ∀ (z : ((Ty.int IntKind.i64).pair (((Ty.int IntKind.i64).pair ((Ty.int IntKind.i64).pair (Ty.int IntKind.i64))).seq.pair (((Ty.int IntKind.i64).pair (Ty.int IntKind.i64)).pair ((Ty.int IntKind.i64).pair (((Ty.int IntKind.i64).pair (Ty.int IntKind.i64)).pair (Ty.int IntKind.i64)))))).den), z ∈ l → pLen z.snd.fst ≤ (9223372036854775807 : Int)) (.ite (repGo l p.toNat ((n * p).toNat - p.toNat) p.toNat) (.leaf [.lit true]) (.leaf [.bool (false)])))) := by kernel_rfl
  refine (congrArg (Tree.ok _) htree).mpr ?_
  clear htree
  obtain ⟨⟨hl, hn, hpp⟩, hq⟩ := hp
  have hm := mul_nn (a := n) (b := p) (by omega) (by omega)
  have hlo : 1 * p ≤ n * p := Int.mul_le_mul_of_nonneg_right (by omega) (by omega)
  have hhi : n * p ≤ 8 * p := Int.mul_le_mul_of_nonneg_right (by omega) (by omega)
  simp only [Tree.ok, tyd_inj, packAV, AV.same, AV.same.sameL, encV, encS, enc, inK, Nd.ok, List.headD_cons, List.cons_append, List.nil_append, List.append_nil, true_and, and_true, Bool.true_and, Bool.and_true, repB, ← hm, decide_eq_true_eq, decide_eq_false_iff_not, Int.one_mul] at *
  generalize n * p = m at *
  generalize repGo l p.toNat (m.toNat - p.toNat) p.toNat = b
  by_cases h1 : (l.length : Int) < m
  · rw [decide_eq_false (show ¬ m.toNat ≤ l.length by omega)]
    repeat' first | apply And.intro | intro _
    all_goals first | omega | assumption | trivial | contradiction | exact hq _ ‹_› | (simp_all; done)
  · rw [decide_eq_true (show m.toNat ≤ l.length by omega)]
    cases b
    all_goals
      repeat' first | apply And.intro | intro _
      all_goals first | omega | assumption | trivial | contradiction | exact hq _ ‹_› | (simp_all; done)
def C_Jo_1 : FuncId → Option Ct := addC 86 ct_repeats C_JoB
theorem C_Jo_1_ok : COk Try.prog C_Jo_1 := addC_ok C_JoB_ok sat_repeats
def ann_bestRepeat_0 : LAnn := { sameS := [0, 2, 3], modS := [4, 5, 6], sameH := [], modH := [], base := 900000, nilE := [], nilB := [], G := fun
  | ⟨[.view (.pair (.int .i64) (.pair (.seq (.pair (.int .i64) (.pair (.int .i64) (.int .i64)))) (.pair (.pair (.int .i64) (.int .i64)) (.pair (.int .i64) (.pair (.pair (.int .i64) (.int .i64)) (.int .i64)))))) l, .int .i64 r1, .int .i64 r2], [], [.int .i64 b, .int .i64 q, .int .i64 p], []⟩ => some (.p ((l.length ≤ 80 ∧ (1 ≤ p ∧ 2 * p ≤ (l.length : Int) + 2) ∧ (0 ≤ b ∧ b ≤ 8) ∧ (0 ≤ q ∧ q ≤ 80)) ∧ ∀ z ∈ l, pLen z.2.1 ≤ 9223372036854775807), .leaf (.exit 0) [.int .i64 ((bestP l (l.length / 2 + 1 - p.toNat) p.toNat (b.toNat, q.toNat)).1 : Int), .int .i64 ((bestP l (l.length / 2 + 1 - p.toNat) p.toNat (b.toNat, q.toNat)).2 : Int), .unk] [])
  | _ => none }
def ann_bestRepeat_1 : LAnn := { sameS := [0, 2, 3, 6], modS := [4, 5, 7], sameH := [], modH := [], base := 900000, nilE := [], nilB := [], G := fun
  | ⟨[.view (.pair (.int .i64) (.pair (.seq (.pair (.int .i64) (.pair (.int .i64) (.int .i64)))) (.pair (.pair (.int .i64) (.int .i64)) (.pair (.int .i64) (.pair (.pair (.int .i64) (.int .i64)) (.int .i64)))))) l, .int .i64 r1, .int .i64 r2, .int .i64 p], [], [.int .i64 b, .int .i64 q, .int .i64 n], []⟩ => some (.p ((l.length ≤ 80 ∧ (1 ≤ p ∧ 2 * p ≤ (l.length : Int)) ∧ (0 ≤ b ∧ b ≤ 8) ∧ (0 ≤ q ∧ q ≤ 80) ∧ (2 ≤ n ∧ n ≤ 9)) ∧ ∀ z ∈ l, pLen z.2.1 ≤ 9223372036854775807), .leaf (.exit 2) [.int .i64 ((bestN l p.toNat (9 - n.toNat) n.toNat (b.toNat, q.toNat)).1 : Int), .int .i64 ((bestN l p.toNat (9 - n.toNat) n.toNat (b.toNat, q.toNat)).2 : Int), .unk] [])
  | _ => none }
def ct_bestRepeat : Ct := ctOf [.v qItem] (fun ((l : List tItem.den), _) => .p (l.length ≤ 80 ∧ ∀ z ∈ l, pLen z.2.1 ≤ 9223372036854775807)) (fun ((l : List tItem.den), _) => .tup [.int .i64 ((bestI l).1 : Int), .int .i64 ((bestI l).2 : Int)])
set_option maxHeartbeats 1000000 in
theorem loop_bestRepeat_1 : LoopSat Try.prog Try.f47.ntmps (loopAt Try.f47 1) ann_bestRepeat_1 := by
  refine loopSat_of (C := C_Jo_1) (L := (addL (firstId (loopAt Try.f47 1)) ann_bestRepeat_1 (addL (firstId (loopAt Try.f47 0)) ann_bestRepeat_0 noL))) (wr := false) mixedOk C_Jo_1_ok (loopsIn0 (by kernel_rfl)) (fun d => match d.vals with | [_, _, .int _ n] => (9 - n).toNat | _ => 0) fun d p t hG hp => ?_
  simp only [ann_bestRepeat_1] at hG
  split at hG
  rotate_left
  · simp at hG
  rename_i l r1 r2 p b q n
  simp only [Option.some.injEq, Prod.mk.injEq] at hG
  obtain ⟨rfl, rfl⟩ := hG
  have htree : exRound Try.prog C_Jo_1 false (addL (firstId (loopAt Try.f47 1)) ann_bestRepeat_1 (addL (firstId (loopAt Try.f47 0)) ann_bestRepeat_0 noL)) Try.f47.ntmps ann_bestRepeat_1 (loopAt Try.f47 1) ⟨[.view tItem l, .int .i64 r1, .int .i64 r2, .int .i64 p], [], [.int .i64 b, .int .i64 q, .int .i64 n], []⟩ = .ite (decide (n ≤ (8 : Int))) (.need (inK IntKind.i64 (n * p)) (.need (inK IntKind.i64 (p + (1 : Int))) (.ite (decide (p + (1 : Int) < n * p)) (.need (inK IntKind.i64 (n * p)) (.need (inK IntKind.i64 (b * q)) (.ite (decide (b * q < n * p)) (.need ((l.length ≤ (80 : Nat) ∧ ((2 : Int) ≤ n ∧ n ≤ (8 : Int)) ∧ (1 : Int) ≤ p ∧ p ≤ (80 : Int)) ∧ ∀ (z : tItem.den), z ∈ l → pLen z.snd.fst ≤ (9223372036854775807 : Int)) (.ite (repB l n.toNat p.toNat) (.need (inK IntKind.i64 (n + (1 : Int))) (.leaf (.normal, ⟨[.view (I64.pair (tPitch.seq.pair (tFrac.pair (I64.pair (tIv.pair I64))))) (l), .int .i64 (r1), .int .i64 (r2), .int .i64 (p)], [], [.int .i64 (n), .int .i64 (p), .int .i64 (n + (1 : Int))], []⟩))) (.need (inK IntKind.i64 (n + (1 : Int))) (.leaf (.normal, ⟨[.view (I64.pair (tPitch.seq.pair (tFrac.pair (I64.pair (tIv.pair I64))))) (l), .int .i64 (r1), .int .i64 (r2), .int .i64 (p)], [], [.int .i64 (b), .int .i64 (q), .int .i64 (n + (1 : Int))], []⟩))))) (.need (inK IntKind.i64 (n + (1 : Int))) (.leaf (.normal, ⟨[.view (I64.pair (tPitch.seq.pair (tFrac.pair (I64.pair (tIv.pair I64))))) (l), .int .i64 (r1), .int .i64 (r2), .int .i64 (p)], [], [.int .i64 (b), .int .i64 (q), .int .i64 (n + (1 : Int))], []⟩)))))) (.need (inK IntKind.i64 (n + (1 : Int))) (.leaf (.normal, ⟨[.view (I64.pair (tPitch.seq.pair (tFrac.pair (I64.pair (tIv.pair I64))))) (l), .int .i64 (r1), .int .i64 (r2), .int .i64 (p)], [], [.int .i64 (b), .int .i64 (q), .int .i64 (n + (1 : Int))], []⟩)))))) (.leaf ((.exit 2), ⟨[.view (I64.pair (tPitch.seq.pair (tFrac.pair (I64.pair (tIv.pair I64))))) (l), .int .i64 (r1), .int .i64 (r2), .int .i64 (p)], [], [.int .i64 (b), .int .i64 (q), .int .i64 (n)], []⟩)) := by kernel_rfl
  rw [htree]
  clear htree
  replace hp : (l.length ≤ 80 ∧ (1 ≤ p ∧ 2 * p ≤ (l.length : Int)) ∧ (0 ≤ b ∧ b ≤ 8) ∧ (0 ≤ q ∧ q ≤ 80) ∧ (2 ≤ n ∧ n ≤ 9)) ∧ ∀ z ∈ l, pLen z.2.1 ≤ 9223372036854775807 := hp
  obtain ⟨⟨hl, hpp, hb, hqq, hn⟩, hq⟩ := hp
  have h1 := mul_nn (a := n) (b := p) (by omega) (by omega)
  have h2 := mul_nn (a := b) (b := q) (by omega) (by omega)
  have m1 : 2 * p ≤ n * p := Int.mul_le_mul_of_nonneg_right (by omega) (by omega)
  have m2 : n * p ≤ 9 * p := Int.mul_le_mul_of_nonneg_right (by omega) (by omega)
  have m3 : 0 * q ≤ b * q := Int.mul_le_mul_of_nonneg_right (by omega) (by omega)
  have m4 : b * q ≤ 8 * q := Int.mul_le_mul_of_nonneg_right (by omega) (by omega)
  simp only [Tree.ok, tyd_inj, packAV, AV.same, AV.same.sameL, encV, encS, enc, inK, Nd.ok, List.headD_cons, List.cons_append, List.nil_append, List.append_nil, true_and, and_true, Bool.true_and, Bool.and_true, loop_next, weakBs_nil, weakBs_cons, weakB_self, weakB_row, weakB_int, weakL_nil, weakL_unk, weakL_guess, isRow_own, isRow_unk, weakL_int, weakL_bool, weakL_str, weakL_own, weakL_view, weakL_nilS, noRow_int, noRow_bool, own_inj, LTree.val, cond_true, cond_false, Prod.mk.injEq, List.cons.injEq, AV.int.injEq, AV.bool.injEq, AV.str.injEq, AV.agg.injEq, ann_bestRepeat_1, decide_eq_true_eq, decide_eq_false_iff_not]
  refine ⟨fun ha => ?_, fun ha => ?_⟩
  · rw [show 9 - n.toNat = (9 - (n.toNat + 1)) + 1 by omega, show (n + 1).toNat = n.toNat + 1 by omega]
    simp only [bestN, ← h1, ← h2]
    clear h1 h2
    generalize n * p = m at *
    generalize b * q = s at *
    cases hr : repB l n.toNat p.toNat
    · rw [if_neg (fun h => by simp at h)]
      repeat' first | apply And.intro | intro _
      all_goals first | omega | assumption | trivial | contradiction | exact hq _ ‹_› | (simp [Tree.ok, tyd_inj, packAV, AV.same, AV.same.sameL, encV, encS, enc, inK, Nd.ok, List.headD_cons, List.cons_append, List.nil_append, List.append_nil, true_and, and_true, Bool.true_and, Bool.and_true, loop_next, weakBs_nil, weakBs_cons, weakB_self, weakB_row, weakB_int, weakL_nil, weakL_unk, weakL_guess, isRow_own, isRow_unk, weakL_int, weakL_bool, weakL_str, weakL_own, weakL_view, weakL_nilS, noRow_int, noRow_bool, own_inj, LTree.val, cond_true, cond_false, Prod.mk.injEq, List.cons.injEq, AV.int.injEq, AV.bool.injEq, AV.str.injEq, AV.agg.injEq]; done) | (simp_all; done)
    · by_cases hc : p + 1 < m ∧ s < m
      · rw [if_pos ⟨by omega, by omega, rfl⟩]
        repeat' first | apply And.intro | intro _
        all_goals first | omega | assumption | trivial | contradiction | exact hq _ ‹_› | (simp [Tree.ok, tyd_inj, packAV, AV.same, AV.same.sameL, encV, encS, enc, inK, Nd.ok, List.headD_cons, List.cons_append, List.nil_append, List.append_nil, true_and, and_true, Bool.true_and, Bool.and_true, loop_next, weakBs_nil, weakBs_cons, weakB_self, weakB_row, weakB_int, weakL_nil, weakL_unk, weakL_guess, isRow_own, isRow_unk, weakL_int, weakL_bool, weakL_str, weakL_own, weakL_view, weakL_nilS, noRow_int, noRow_bool, own_inj, LTree.val, cond_true, cond_false, Prod.mk.injEq, List.cons.injEq, AV.int.injEq, AV.bool.injEq, AV.str.injEq, AV.agg.injEq]; done) | (simp_all; done)
      · rw [if_neg (fun h => hc ⟨by omega, by omega⟩)]
        repeat' first | apply And.intro | intro _
        all_goals first | omega | assumption | trivial | contradiction | exact hq _ ‹_› | (exfalso; omega) | (simp [Tree.ok, tyd_inj, packAV, AV.same, AV.same.sameL, encV, encS, enc, inK, Nd.ok, List.headD_cons, List.cons_append, List.nil_append, List.append_nil, true_and, and_true, Bool.true_and, Bool.and_true, loop_next, weakBs_nil, weakBs_cons, weakB_self, weakB_row, weakB_int, weakL_nil, weakL_unk, weakL_guess, isRow_own, isRow_unk, weakL_int, weakL_bool, weakL_str, weakL_own, weakL_view, weakL_nilS, noRow_int, noRow_bool, own_inj, LTree.val, cond_true, cond_false, Prod.mk.injEq, List.cons.injEq, AV.int.injEq, AV.bool.injEq, AV.str.injEq, AV.agg.injEq]; done) | (simp_all; done)
  · rw [show 9 - n.toNat = 0 by omega]
    simp only [bestN]
    repeat' first | apply And.intro | intro _
    all_goals first | omega | assumption | trivial | (simp [Tree.ok, tyd_inj, packAV, AV.same, AV.same.sameL, encV, encS, enc, inK, Nd.ok, List.headD_cons, List.cons_append, List.nil_append, List.append_nil, true_and, and_true, Bool.true_and, Bool.and_true, loop_next, weakBs_nil, weakBs_cons, weakB_self, weakB_row, weakB_int, weakL_nil, weakL_unk, weakL_guess, isRow_own, isRow_unk, weakL_int, weakL_bool, weakL_str, weakL_own, weakL_view, weakL_nilS, noRow_int, noRow_bool, own_inj, LTree.val, cond_true, cond_false, Prod.mk.injEq, List.cons.injEq, AV.int.injEq, AV.bool.injEq, AV.str.injEq, AV.agg.injEq]; omega) | (simp_all; done)
set_option maxHeartbeats 1000000 in
theorem loop_bestRepeat_0 : LoopSat Try.prog Try.f47.ntmps (loopAt Try.f47 0) ann_bestRepeat_0 := by
  refine loopSat_of (C := C_Jo_1) (L := (addL (firstId (loopAt Try.f47 1)) ann_bestRepeat_1 (addL (firstId (loopAt Try.f47 0)) ann_bestRepeat_0 noL))) (wr := false) mixedOk C_Jo_1_ok (loopsIn1 (b := loopAt Try.f47 1) (by kernel_rfl) (fun ann h => (Option.some.inj ((show (addL (firstId (loopAt Try.f47 1)) ann_bestRepeat_1 (addL (firstId (loopAt Try.f47 0)) ann_bestRepeat_0 noL)) (firstId (loopAt Try.f47 1)) = some ann_bestRepeat_1 from by kernel_rfl).symm.trans h)) ▸ loop_bestRepeat_1)) (fun d => match d.same, d.vals with | [.view _ l, _, _], [_, _, .int _ p] => ((l.length : Int) + 3 - 2 * p).toNat | _, _ => 0) fun d p t hG hp => ?_
  simp only [ann_bestRepeat_0] at hG
  split at hG
  rotate_left
  · simp at hG
  rename_i l r1 r2 b q p
  simp only [Option.some.injEq, Prod.mk.injEq] at hG
  obtain ⟨rfl, rfl⟩ := hG
  have htree : exRound Try.prog C_Jo_1 false (addL (firstId (loopAt Try.f47 1)) ann_bestRepeat_1 (addL (firstId (loopAt Try.f47 0)) ann_bestRepeat_0 noL)) Try.f47.ntmps ann_bestRepeat_0 (loopAt Try.f47 0) ⟨[.view tItem l, .int .i64 r1, .int .i64 r2], [], [.int .i64 b, .int .i64 q, .int .i64 p], []⟩ = .need (inK IntKind.i64 ((2 : Int) * p)) (.ite (decide ((2 : Int) * p ≤ (↑l.length : Int))) (.need ((l.length ≤ (80 : Nat) ∧ ((1 : Int) ≤ p ∧ (2 : Int) * p ≤ (↑l.length : Int)) ∧ ((0 : Int) ≤ b ∧ b ≤ (8 : Int)) ∧ ((0 : Int) ≤ q ∧ q ≤ (80 : Int)) ∧ (2 : Int) ≤ (2 : Int) ∧ (2 : Int) ≤ (9 : Int)) ∧ ∀ (z : ((Ty.int IntKind.i64).pair (((Ty.int IntKind.i64).pair ((Ty.int IntKind.i64).pair (Ty.int IntKind.i64))).seq.pair (((Ty.int IntKind.i64).pair (Ty.int IntKind.i64)).pair ((Ty.int IntKind.i64).pair (((Ty.int IntKind.i64).pair (Ty.int IntKind.i64)).pair (Ty.int IntKind.i64)))))).den), z ∈ l → pLen z.snd.fst ≤ (9223372036854775807 : Int)) (.need (inK IntKind.i64 (p + (1 : Int))) (.leaf (.normal, ⟨[.view (I64.pair (tPitch.seq.pair (tFrac.pair (I64.pair (tIv.pair I64))))) (l), .int .i64 (r1), .int .i64 (r2)], [], [.int .i64 ((↑(bestN l p.toNat ((9 : Nat) - Int.toNat (2 : Int)) (Int.toNat (2 : Int)) (b.toNat, q.toNat)).fst : Int)), .int .i64 ((↑(bestN l p.toNat ((9 : Nat) - Int.toNat (2 : Int)) (Int.toNat (2 : Int)) (b.toNat, q.toNat)).snd : Int)), .int .i64 (p + (1 : Int))], []⟩)))) (.leaf ((.exit 0), ⟨[.view (I64.pair (tPitch.seq.pair (tFrac.pair (I64.pair (tIv.pair I64))))) (l), .int .i64 (r1), .int .i64 (r2)], [], [.int .i64 (b), .int .i64 (q), .int .i64 (p)], []⟩))) := by kernel_rfl
  rw [htree]
  clear htree
  replace hp : (l.length ≤ 80 ∧ (1 ≤ p ∧ 2 * p ≤ (l.length : Int) + 2) ∧ (0 ≤ b ∧ b ≤ 8) ∧ (0 ≤ q ∧ q ≤ 80)) ∧ ∀ z ∈ l, pLen z.2.1 ≤ 9223372036854775807 := hp
  obtain ⟨⟨hl, hpp, hb, hqq⟩, hq⟩ := hp
  simp only [Tree.ok, tyd_inj, packAV, AV.same, AV.same.sameL, encV, encS, enc, inK, Nd.ok, List.headD_cons, List.cons_append, List.nil_append, List.append_nil, true_and, and_true, Bool.true_and, Bool.and_true, loop_next, weakBs_nil, weakBs_cons, weakB_self, weakB_row, weakB_int, weakL_nil, weakL_unk, weakL_guess, isRow_own, isRow_unk, weakL_int, weakL_bool, weakL_str, weakL_own, weakL_view, weakL_nilS, noRow_int, noRow_bool, own_inj, LTree.val, cond_true, cond_false, Prod.mk.injEq, List.cons.injEq, AV.int.injEq, AV.bool.injEq, AV.str.injEq, AV.agg.injEq, ann_bestRepeat_0, decide_eq_true_eq, decide_eq_false_iff_not]
  refine ⟨by omega, fun ha => ?_, fun ha => ?_⟩
  · have hbn := bestN_bd l p.toNat 7 2 (b.toNat, q.toNat) (by omega) (by omega) (by simp only; omega) (by simp only; omega)
    rw [show l.length / 2 + 1 - p.toNat = (l.length / 2 + 1 - (p.toNat + 1)) + 1 by omega, show (p + 1).toNat = p.toNat + 1 by omega]
    simp only [bestP, show (9 : Nat) - (2 : Int).toNat = 7 from rfl, show (2 : Int).toNat = 2 from rfl] at *
    generalize bestN l p.toNat 7 2 (b.toNat, q.toNat) = E at *
    obtain ⟨e1, e2⟩ := E
    simp only [Int.toNat_natCast] at *
    repeat' first | apply And.intro | intro _
    all_goals first | omega | assumption | trivial | contradiction | exact hq _ ‹_› | (simp [Tree.ok, tyd_inj, packAV, AV.same, AV.same.sameL, encV, encS, enc, inK, Nd.ok, List.headD_cons, List.cons_append, List.nil_append, List.append_nil, true_and, and_true, Bool.true_and, Bool.and_true, loop_next, weakBs_nil, weakBs_cons, weakB_self, weakB_row, weakB_int, weakL_nil, weakL_unk, weakL_guess, isRow_own, isRow_unk, weakL_int, weakL_bool, weakL_str, weakL_own, weakL_view, weakL_nilS, noRow_int, noRow_bool, own_inj, LTree.val, cond_true, cond_false, Prod.mk.injEq, List.cons.injEq, AV.int.injEq, AV.bool.injEq, AV.str.injEq, AV.agg.injEq]; done) | (simp_all; done)
  · rw [show l.length / 2 + 1 - p.toNat = 0 by omega]
    simp only [bestP]
    repeat' first | apply And.intro | intro _
    all_goals first | omega | assumption | trivial | (simp [Tree.ok, tyd_inj, packAV, AV.same, AV.same.sameL, encV, encS, enc, inK, Nd.ok, List.headD_cons, List.cons_append, List.nil_append, List.append_nil, true_and, and_true, Bool.true_and, Bool.and_true, loop_next, weakBs_nil, weakBs_cons, weakB_self, weakB_row, weakB_int, weakL_nil, weakL_unk, weakL_guess, isRow_own, isRow_unk, weakL_int, weakL_bool, weakL_str, weakL_own, weakL_view, weakL_nilS, noRow_int, noRow_bool, own_inj, LTree.val, cond_true, cond_false, Prod.mk.injEq, List.cons.injEq, AV.int.injEq, AV.bool.injEq, AV.str.injEq, AV.agg.injEq]; omega) | (simp_all; done)
theorem loops_bestRepeat : ∀ c, Try.f47.body = some c → LoopsOk Try.prog (addL (firstId (loopAt Try.f47 1)) ann_bestRepeat_1 (addL (firstId (loopAt Try.f47 0)) ann_bestRepeat_0 noL)) Try.f47.ntmps c := loopsN fun i hi ann h => by
  have hn : loopN Try.f47 = 2 := by kernel_rfl
  rw [hn] at hi
  exact match i, hi, h with
    | 0, _, h => (Option.some.inj ((show (addL (firstId (loopAt Try.f47 1)) ann_bestRepeat_1 (addL (firstId (loopAt Try.f47 0)) ann_bestRepeat_0 noL)) (firstId (loopAt Try.f47 0)) = some ann_bestRepeat_0 from by kernel_rfl).symm.trans h)) ▸ loop_bestRepeat_0
    | 1, _, h => (Option.some.inj ((show (addL (firstId (loopAt Try.f47 1)) ann_bestRepeat_1 (addL (firstId (loopAt Try.f47 0)) ann_bestRepeat_0 noL)) (firstId (loopAt Try.f47 1)) = some ann_bestRepeat_1 from by kernel_rfl).symm.trans h)) ▸ loop_bestRepeat_1
set_option maxHeartbeats 1000000 in
theorem sat_bestRepeat : Sat Try.prog 47 ct_bestRepeat := by
  refine sat_typed (C := C_Jo_1) (L := (addL (firstId (loopAt Try.f47 1)) ann_bestRepeat_1 (addL (firstId (loopAt Try.f47 0)) ann_bestRepeat_0 noL))) (wr := false) mixedOk Try.func47 C_Jo_1_ok (loops_bestRepeat) (fun _ => by first | rfl | (simp [ownsOf, ownsOf.ownsL, enc, encV, encS])) fun x hp => ?_
  obtain ⟨(l : List tItem.den), _⟩ := x
  replace hp : l.length ≤ 80 ∧ ∀ z ∈ l, pLen z.2.1 ≤ 9223372036854775807 := hp
  have htree : exFunc Try.prog C_Jo_1 false (addL (firstId (loopAt Try.f47 1)) ann_bestRepeat_1 (addL (firstId (loopAt Try.f47 0)) ann_bestRepeat_0 noL)) Try.f47 (encA [.v qItem] (l, ())) = .need ((l.length ≤ (80 : Nat) ∧ ((1 : Int) ≤ (1 : Int) ∧ (2 : Int) * (1 : Int) ≤ (↑l.length : Int) + (2 : Int)) ∧ ((0 : Int) ≤ (0 : Int) ∧ (0 : Int) ≤ (8 : Int)) ∧ (0 : Int) ≤ (0 : Int) ∧ (0 : Int) ≤ (80 : Int)) ∧ ∀ (z : ((Ty.int IntKind.i64).pair (((Ty.int IntKind.i64).pair ((Ty.int IntKind.i64).pair (Ty.int IntKind.i64))).seq.pair (((Ty.int IntKind.i64).pair (Ty.int IntKind.i64)).pair ((Ty.int IntKind.i64).pair (((Ty.int IntKind.i64).pair (Ty.int IntKind.i64)).pair (Ty.int IntKind.i64)))))).den), z ∈ l → pLen z.snd.fst ≤ (9223372036854775807 : Int)) (.leaf [.int .i64 ((↑(bestP l (l.length / (2 : Nat) + (1 : Nat) - Int.toNat (1 : Int)) (Int.toNat (1 : Int)) (Int.toNat (0 : Int), Int.toNat (0 : Int))).fst : Int)), .int .i64 ((↑(bestP l (l.length / (2 : Nat) + (1 : Nat) - Int.toNat (1 : Int)) (Int.toNat (1 : Int)) (Int.toNat (0 : Int), Int.toNat (0 : Int))).snd : Int))]) := by kernel_rfl
  refine (congrArg (Tree.ok _) htree).mpr ?_
  clear htree
  simp only [Tree.ok, tyd_inj, packAV, AV.same, AV.same.sameL, encV, encS, enc, inK, Nd.ok, List.headD_cons, List.cons_append, List.nil_append, List.append_nil, true_and, and_true, Bool.true_and, Bool.and_true, bestI, show (1 : Int).toNat = 1 from rfl, show (0 : Int).toNat = 0 from rfl, Nat.add_sub_cancel]
  repeat' first | apply And.intro | intro _
  all_goals first | omega | assumption | trivial | exact hp.1 | exact hp.2 _ ‹_› | (simp_all; done)
def C_Jo_2 : FuncId → Option Ct := addC 47 ct_bestRepeat C_Jo_1
theorem C_Jo_2_ok : COk Try.prog C_Jo_2 := addC_ok C_Jo_1_ok sat_bestRepeat
def ann_l19Repeats_0 : LAnn := { sameS := [0, 1, 2], modS := [6, 7], sameH := [], modH := [], base := 900000, nilE := [], nilB := [], G := fun
  | ⟨[.view (.pair (.int .i64) (.pair (.seq (.pair (.int .i64) (.pair (.int .i64) (.int .i64)))) (.pair (.pair (.int .i64) (.int .i64)) (.pair (.int .i64) (.pair (.pair (.int .i64) (.int .i64)) (.int .i64)))))) l, .int .i64 i, .int .i64 p], [], [.int .i64 r, .int .i64 n], []⟩ => some (.p ((l.length ≤ 80 ∧ (0 ≤ i ∧ i + 2 * p ≤ (l.length : Int)) ∧ 1 ≤ p ∧ (1 ≤ n ∧ n ≤ 8) ∧ i + n * p ≤ (l.length : Int)) ∧ ∀ z ∈ l, pLen z.2.1 ≤ 9223372036854775807), .ite (decide (8 ≤ repsGo (l.drop i.toNat) p.toNat (8 - n.toNat) n.toNat ∨ (l.drop i.toNat).length < (repsGo (l.drop i.toNat) p.toNat (8 - n.toNat) n.toNat + 1) * p.toNat)) (.leaf (.exit 0) [.int .i64 r, .int .i64 ((repsGo (l.drop i.toNat) p.toNat (8 - n.toNat) n.toNat : Nat) : Int)] []) (.leaf .ret [.int .i64 ((repsGo (l.drop i.toNat) p.toNat (8 - n.toNat) n.toNat : Nat) : Int), .unk] []))
  | _ => none }
def ann_l19Repeats_1 : LAnn := { sameS := [0, 1, 2, 7], modS := [6, 8], sameH := [], modH := [], base := 900000, nilE := [], nilB := [], G := fun
  | ⟨[.view (.pair (.int .i64) (.pair (.seq (.pair (.int .i64) (.pair (.int .i64) (.int .i64)))) (.pair (.pair (.int .i64) (.int .i64)) (.pair (.int .i64) (.pair (.pair (.int .i64) (.int .i64)) (.int .i64)))))) l, .int .i64 i, .int .i64 p, .int .i64 n], [], [.int .i64 r, .int .i64 k], []⟩ => some (.p ((l.length ≤ 80 ∧ 0 ≤ i ∧ (0 ≤ k ∧ k ≤ p) ∧ 1 ≤ n ∧ i + n * p + p ≤ (l.length : Int) ∧ 0 ≤ n * p ∧ p ≤ n * p) ∧ ∀ z ∈ l, pLen z.2.1 ≤ 9223372036854775807), .ite (blkGo (l.drop i.toNat) (n * p).toNat (p.toNat - k.toNat) k.toNat) (.leaf (.exit 2) [.int .i64 r, .unk] []) (.leaf .ret [.int .i64 n, .unk] []))
  | _ => none }
def ct_l19Repeats : Ct := ctOf [.v qItem, .v (.int .i64), .v (.int .i64)] (fun ((l : List tItem.den), (i : Int), (p : Int), _) => .p ((l.length ≤ 80 ∧ (0 ≤ i ∧ i + 2 * p ≤ (l.length : Int)) ∧ 1 ≤ p) ∧ ∀ z ∈ l, pLen z.2.1 ≤ 9223372036854775807)) (fun ((l : List tItem.den), (i : Int), (p : Int), _) => .int .i64 ((repsN (l.drop i.toNat) p.toNat : Nat) : Int))
set_option maxHeartbeats 1000000 in
theorem loop_l19Repeats_1 : LoopSat Try.prog Try.f44.ntmps (loopAt Try.f44 1) ann_l19Repeats_1 := by
  refine loopSat_of (C := C_Jo_2) (L := (addL (firstId (loopAt Try.f44 1)) ann_l19Repeats_1 (addL (firstId (loopAt Try.f44 0)) ann_l19Repeats_0 noL))) (wr := false) mixedOk C_Jo_2_ok (loopsIn0 (by kernel_rfl)) (fun d => match d.same, d.vals with | [_, _, .int _ p, _], [_, .int _ k] => (p - k).toNat | _, _ => 0) fun d p t hG hp => ?_
  simp only [ann_l19Repeats_1] at hG
  split at hG
  rotate_left
  · simp at hG
  rename_i l i p n r k
  simp only [Option.some.injEq, Prod.mk.injEq] at hG
  obtain ⟨rfl, rfl⟩ := hG
  have htree : exRound Try.prog C_Jo_2 false (addL (firstId (loopAt Try.f44 1)) ann_l19Repeats_1 (addL (firstId (loopAt Try.f44 0)) ann_l19Repeats_0 noL)) Try.f44.ntmps ann_l19Repeats_1 (loopAt Try.f44 1) ⟨[.view tItem l, .int .i64 i, .int .i64 p, .int .i64 n], [], [.int .i64 r, .int .i64 k], []⟩ = .ite (decide (k < p)) (.need (inK IntKind.i64 (i + k)) (.need ((0 : Int) ≤ i + k ∧ i + k < (↑l.length : Int)) (.need (inK IntKind.i64 (n * p)) (.need (inK IntKind.i64 (i + n * p)) (.need (inK IntKind.i64 (i + n * p + k)) (.need ((0 : Int) ≤ i + n * p + k ∧ i + n * p + k < (↑l.length : Int)) (.need (pLen (getT tItem l (i + k)).snd.fst ≤ (9223372036854775807 : Int)) (.ite (!decide (((getT tItem l (i + k)).fst, (getT tItem l (i + k)).snd.fst, ((getT tItem l (i + k)).snd.snd.fst.fst, (getT tItem l (i + k)).snd.snd.fst.snd), (getT tItem l (i + k)).snd.snd.snd.fst, ((getT tItem l (i + k)).snd.snd.snd.snd.fst.fst, (getT tItem l (i + k)).snd.snd.snd.snd.fst.snd), (getT tItem l (i + k)).snd.snd.snd.snd.snd) = ((getT tItem l (i + n * p + k)).fst, (getT tItem l (i + n * p + k)).snd.fst, ((getT tItem l (i + n * p + k)).snd.snd.fst.fst, (getT tItem l (i + n * p + k)).snd.snd.fst.snd), (getT tItem l (i + n * p + k)).snd.snd.snd.fst, ((getT tItem l (i + n * p + k)).snd.snd.snd.snd.fst.fst, (getT tItem l (i + n * p + k)).snd.snd.snd.snd.fst.snd), (getT tItem l (i + n * p + k)).snd.snd.snd.snd.snd))) (.leaf (.ret, ⟨[.view (I64.pair (tPitch.seq.pair (tFrac.pair (I64.pair (tIv.pair I64))))) (l), .int .i64 (i), .int .i64 (p), .int .i64 (n)], [], [.int .i64 (n), .int .i64 (k)], []⟩)) (.need (inK IntKind.i64 (k + (1 : Int))) (.leaf (.normal, ⟨[.view (I64.pair (tPitch.seq.pair (tFrac.pair (I64.pair (tIv.pair I64))))) (l), .int .i64 (i), .int .i64 (p), .int .i64 (n)], [], [.int .i64 (r), .int .i64 (k + (1 : Int))], []⟩))))))))))) (.leaf ((.exit 2), ⟨[.view (I64.pair (tPitch.seq.pair (tFrac.pair (I64.pair (tIv.pair I64))))) (l), .int .i64 (i), .int .i64 (p), .int .i64 (n)], [], [.int .i64 (r), .int .i64 (k)], []⟩)) := by kernel_rfl
  rw [htree]
  clear htree
  replace hp : (l.length ≤ 80 ∧ 0 ≤ i ∧ (0 ≤ k ∧ k ≤ p) ∧ 1 ≤ n ∧ i + n * p + p ≤ (l.length : Int) ∧ 0 ≤ n * p ∧ p ≤ n * p) ∧ ∀ z ∈ l, pLen z.2.1 ≤ 9223372036854775807 := hp
  obtain ⟨⟨hl, hi, hk, hn, hin, hm0, hmp⟩, hq⟩ := hp
  simp only [Tree.ok, tyd_inj, packAV, AV.same, AV.same.sameL, encV, encS, enc, inK, Nd.ok, List.headD_cons, List.cons_append, List.nil_append, List.append_nil, true_and, and_true, Bool.true_and, Bool.and_true, loop_next, weakBs_nil, weakBs_cons, weakB_self, weakB_row, weakB_int, weakL_nil, weakL_unk, weakL_guess, isRow_own, isRow_unk, weakL_int, weakL_bool, weakL_str, weakL_own, weakL_view, weakL_nilS, noRow_int, noRow_bool, own_inj, LTree.val, cond_true, cond_false, Prod.mk.injEq, List.cons.injEq, AV.int.injEq, AV.bool.injEq, AV.str.injEq, AV.agg.injEq, ann_l19Repeats_1, decide_eq_true_eq, decide_eq_false_iff_not, bne_iff_ne, ne_eq, bne_eq_false_iff_eq, Bool.not_eq_true', Bool.not_eq_false', getT_iA]
  generalize n * p = m at *
  refine ⟨fun ha => ?_, fun ha => ?_⟩
  · have h1 := blkGo_step (l.drop i.toNat) m.toNat k.toNat p.toNat (by omega)
    have hm := iA_mem hq (i + k).toNat (by omega)
    rw [h1, iA_drop, iA_drop, show (k + 1).toNat = k.toNat + 1 by omega, show i.toNat + k.toNat = (i + k).toNat by omega, show i.toNat + (m.toNat + k.toNat) = (i + m + k).toNat by omega]
    clear h1
    generalize blkGo (l.drop i.toNat) m.toNat (p.toNat - (k.toNat + 1)) (k.toNat + 1) = b2
    by_cases hE : iA l (i + k).toNat = iA l (i + m + k).toNat
    · rw [decide_eq_true hE, Bool.true_and]
      cases b2
      all_goals
        repeat' first | apply And.intro | intro _
        all_goals first | omega | assumption | trivial | contradiction | exact hq _ ‹_› | exact absurd ((it_ext _ _).2 hE) (by assumption) | (simp [Tree.ok, tyd_inj, packAV, AV.same, AV.same.sameL, encV, encS, enc, inK, Nd.ok, List.headD_cons, List.cons_append, List.nil_append, List.append_nil, true_and, and_true, Bool.true_and, Bool.and_true, loop_next, weakBs_nil, weakBs_cons, weakB_self, weakB_row, weakB_int, weakL_nil, weakL_unk, weakL_guess, isRow_own, isRow_unk, weakL_int, weakL_bool, weakL_str, weakL_own, weakL_view, weakL_nilS, noRow_int, noRow_bool, own_inj, LTree.val, cond_true, cond_false, Prod.mk.injEq, List.cons.injEq, AV.int.injEq, AV.bool.injEq, AV.str.injEq, AV.agg.injEq]; done)
    · rw [decide_eq_false hE, Bool.false_and]
      repeat' first | apply And.intro | intro _
      all_goals first | omega | assumption | trivial | contradiction | exact hq _ ‹_› | exact absurd ((it_ext _ _).1 (by assumption)) hE | (simp [Tree.ok, tyd_inj, packAV, AV.same, AV.same.sameL, encV, encS, enc, inK, Nd.ok, List.headD_cons, List.cons_append, List.nil_append, List.append_nil, true_and, and_true, Bool.true_and, Bool.and_true, loop_next, weakBs_nil, weakBs_cons, weakB_self, weakB_row, weakB_int, weakL_nil, weakL_unk, weakL_guess, isRow_own, isRow_unk, weakL_int, weakL_bool, weakL_str, weakL_own, weakL_view, weakL_nilS, noRow_int, noRow_bool, own_inj, LTree.val, cond_true, cond_false, Prod.mk.injEq, List.cons.injEq, AV.int.injEq, AV.bool.injEq, AV.str.injEq, AV.agg.injEq]; done)
  · rw [show p.toNat - k.toNat = 0 by omega]
    simp [Tree.ok, tyd_inj, packAV, AV.same, AV.same.sameL, encV, encS, enc, inK, Nd.ok, List.headD_cons, List.cons_append, List.nil_append, List.append_nil, true_and, and_true, Bool.true_and, Bool.and_true, loop_next, weakBs_nil, weakBs_cons, weakB_self, weakB_row, weakB_int, weakL_nil, weakL_unk, weakL_guess, isRow_own, isRow_unk, weakL_int, weakL_bool, weakL_str, weakL_own, weakL_view, weakL_nilS, noRow_int, noRow_bool, own_inj, LTree.val, cond_true, cond_false, Prod.mk.injEq, List.cons.injEq, AV.int.injEq, AV.bool.injEq, AV.str.injEq, AV.agg.injEq, blkGo]
set_option maxHeartbeats 1000000 in
theorem loop_l19Repeats_0 : LoopSat Try.prog Try.f44.ntmps (loopAt Try.f44 0) ann_l19Repeats_0 := by
  refine loopSat_of (C := C_Jo_2) (L := (addL (firstId (loopAt Try.f44 1)) ann_l19Repeats_1 (addL (firstId (loopAt Try.f44 0)) ann_l19Repeats_0 noL))) (wr := false) mixedOk C_Jo_2_ok (loopsIn1 (b := loopAt Try.f44 1) (by kernel_rfl) (fun ann h => (Option.some.inj ((show (addL (firstId (loopAt Try.f44 1)) ann_l19Repeats_1 (addL (firstId (loopAt Try.f44 0)) ann_l19Repeats_0 noL)) (firstId (loopAt Try.f44 1)) = some ann_l19Repeats_1 from by kernel_rfl).symm.trans h)) ▸ loop_l19Repeats_1)) (fun d => match d.vals with | [_, .int _ n] => (8 - n).toNat | _ => 0) fun d p t hG hp => ?_
  simp only [ann_l19Repeats_0] at hG
  split at hG
  rotate_left
  · simp at hG
  rename_i l i p r n
  simp only [Option.some.injEq, Prod.mk.injEq] at hG
  obtain ⟨rfl, rfl⟩ := hG
  have htree : exRound Try.prog C_Jo_2 false (addL (firstId (loopAt Try.f44 1)) ann_l19Repeats_1 (addL (firstId (loopAt Try.f44 0)) ann_l19Repeats_0 noL)) Try.f44.ntmps ann_l19Repeats_0 (loopAt Try.f44 0) ⟨[.view tItem l, .int .i64 i, .int .i64 p], [], [.int .i64 r, .int .i64 n], []⟩ = .ite (decide (n < (8 : Int))) (.need (inK IntKind.i64 (n + (1 : Int))) (.need (inK IntKind.i64 ((n + (1 : Int)) * p)) (.need (inK IntKind.i64 (i + (n + (1 : Int)) * p)) (.ite (decide (i + (n + (1 : Int)) * p ≤ (↑l.length : Int))) (.need ((l.length ≤ (80 : Nat) ∧ (0 : Int) ≤ i ∧ ((0 : Int) ≤ (0 : Int) ∧ (0 : Int) ≤ p) ∧ (1 : Int) ≤ n ∧ i + n * p + p ≤ (↑l.length : Int) ∧ (0 : Int) ≤ n * p ∧ p ≤ n * p) ∧ ∀ (z : ((Ty.int IntKind.i64).pair (((Ty.int IntKind.i64).pair ((Ty.int IntKind.i64).pair (Ty.int IntKind.i64))).seq.pair (((Ty.int IntKind.i64).pair (Ty.int IntKind.i64)).pair ((Ty.int IntKind.i64).pair (((Ty.int IntKind.i64).pair (Ty.int IntKind.i64)).pair (Ty.int IntKind.i64)))))).den), z ∈ l → pLen z.snd.fst ≤ (9223372036854775807 : Int)) (.ite (blkGo (List.drop i.toNat l) (n * p).toNat (p.toNat - Int.toNat (0 : Int)) (Int.toNat (0 : Int))) (.need (inK IntKind.i64 (n + (1 : Int))) (.leaf (.normal, ⟨[.view (I64.pair (tPitch.seq.pair (tFrac.pair (I64.pair (tIv.pair I64))))) (l), .int .i64 (i), .int .i64 (p)], [], [.int .i64 (r), .int .i64 (n + (1 : Int))], []⟩))) (.leaf (.ret, ⟨[.view (I64.pair (tPitch.seq.pair (tFrac.pair (I64.pair (tIv.pair I64))))) (l), .int .i64 (i), .int .i64 (p)], [], [.int .i64 (n), .int .i64 (n)], []⟩)))) (.leaf ((.exit 0), ⟨[.view (I64.pair (tPitch.seq.pair (tFrac.pair (I64.pair (tIv.pair I64))))) (l), .int .i64 (i), .int .i64 (p)], [], [.int .i64 (r), .int .i64 (n)], []⟩)))))) (.leaf ((.exit 0), ⟨[.view (I64.pair (tPitch.seq.pair (tFrac.pair (I64.pair (tIv.pair I64))))) (l), .int .i64 (i), .int .i64 (p)], [], [.int .i64 (r), .int .i64 (n)], []⟩)) := by kernel_rfl
  rw [htree]
  clear htree
  replace hp : (l.length ≤ 80 ∧ (0 ≤ i ∧ i + 2 * p ≤ (l.length : Int)) ∧ 1 ≤ p ∧ (1 ≤ n ∧ n ≤ 8) ∧ i + n * p ≤ (l.length : Int)) ∧ ∀ z ∈ l, pLen z.2.1 ≤ 9223372036854775807 := hp
  obtain ⟨⟨hl, hi, hpp, hn, hin⟩, hq⟩ := hp
  have h1 := mul_nn (a := n) (b := p) (by omega) (by omega)
  have h2 : (n + 1) * p = n * p + p := by rw [Int.add_mul, Int.one_mul]
  have m1 : 1 * p ≤ n * p := Int.mul_le_mul_of_nonneg_right (by omega) (by omega)
  have m2 : n * p ≤ 8 * p := Int.mul_le_mul_of_nonneg_right (by omega) (by omega)
  have h3 : (n.toNat + 1) * p.toNat = (n * p).toNat + p.toNat := by rw [Nat.succ_mul, h1]
  simp only [Tree.ok, tyd_inj, packAV, AV.same, AV.same.sameL, encV, encS, enc, inK, Nd.ok, List.headD_cons, List.cons_append, List.nil_append, List.append_nil, true_and, and_true, Bool.true_and, Bool.and_true, loop_next, weakBs_nil, weakBs_cons, weakB_self, weakB_row, weakB_int, weakL_nil, weakL_unk, weakL_guess, isRow_own, isRow_unk, weakL_int, weakL_bool, weakL_str, weakL_own, weakL_view, weakL_nilS, noRow_int, noRow_bool, own_inj, LTree.val, cond_true, cond_false, Prod.mk.injEq, List.cons.injEq, AV.int.injEq, AV.bool.injEq, AV.str.injEq, AV.agg.injEq, ann_l19Repeats_0, decide_eq_true_eq, decide_eq_false_iff_not, List.length_drop, h2]
  refine ⟨fun ha => ?_, fun ha => ?_⟩
  · have hr := repsGo_le (l.drop i.toNat) p.toNat (8 - (n.toNat + 1)) (n.toNat + 1)
    rw [show 8 - n.toNat = (8 - (n.toNat + 1)) + 1 by omega, show (n + 1).toNat = n.toNat + 1 by omega]
    simp only [repsGo, List.length_drop, h3, blkB, ← h1]
    generalize repsGo (l.drop i.toNat) p.toNat (8 - (n.toNat + 1)) (n.toNat + 1) = R at *
    generalize n * p = m at *
    simp only [show (0 : Int).toNat = 0 from rfl, Nat.sub_zero]
    by_cases hc : m.toNat + p.toNat ≤ l.length - i.toNat
    · cases hb : blkGo (l.drop i.toNat) m.toNat p.toNat 0
      · rw [if_neg (fun h => by simp at h), decide_eq_false (show ¬ (8 ≤ n.toNat ∨ l.length - i.toNat < (n.toNat + 1) * p.toNat) by rw [h3]; omega)]
        repeat' first | apply And.intro | intro _
        all_goals first | omega | assumption | trivial | contradiction | exact hq _ ‹_› | (simp [Tree.ok, tyd_inj, packAV, AV.same, AV.same.sameL, encV, encS, enc, inK, Nd.ok, List.headD_cons, List.cons_append, List.nil_append, List.append_nil, true_and, and_true, Bool.true_and, Bool.and_true, loop_next, weakBs_nil, weakBs_cons, weakB_self, weakB_row, weakB_int, weakL_nil, weakL_unk, weakL_guess, isRow_own, isRow_unk, weakL_int, weakL_bool, weakL_str, weakL_own, weakL_view, weakL_nilS, noRow_int, noRow_bool, own_inj, LTree.val, cond_true, cond_false, Prod.mk.injEq, List.cons.injEq, AV.int.injEq, AV.bool.injEq, AV.str.injEq, AV.agg.injEq]; omega) | (simp [Tree.ok, tyd_inj, packAV, AV.same, AV.same.sameL, encV, encS, enc, inK, Nd.ok, List.headD_cons, List.cons_append, List.nil_append, List.append_nil, true_and, and_true, Bool.true_and, Bool.and_true, loop_next, weakBs_nil, weakBs_cons, weakB_self, weakB_row, weakB_int, weakL_nil, weakL_unk, weakL_guess, isRow_own, isRow_unk, weakL_int, weakL_bool, weakL_str, weakL_own, weakL_view, weakL_nilS, noRow_int, noRow_bool, own_inj, LTree.val, cond_true, cond_false, Prod.mk.injEq, List.cons.injEq, AV.int.injEq, AV.bool.injEq, AV.str.injEq, AV.agg.injEq]; done)
      · rw [if_pos ⟨hc, rfl⟩]
        generalize (decide (8 ≤ R ∨ l.length - i.toNat < (R + 1) * p.toNat)) = D
        cases D
        all_goals
          repeat' first | apply And.intro | intro _
          all_goals first | omega | assumption | trivial | contradiction | exact hq _ ‹_› | (simp [Tree.ok, tyd_inj, packAV, AV.same, AV.same.sameL, encV, encS, enc, inK, Nd.ok, List.headD_cons, List.cons_append, List.nil_append, List.append_nil, true_and, and_true, Bool.true_and, Bool.and_true, loop_next, weakBs_nil, weakBs_cons, weakB_self, weakB_row, weakB_int, weakL_nil, weakL_unk, weakL_guess, isRow_own, isRow_unk, weakL_int, weakL_bool, weakL_str, weakL_own, weakL_view, weakL_nilS, noRow_int, noRow_bool, own_inj, LTree.val, cond_true, cond_false, Prod.mk.injEq, List.cons.injEq, AV.int.injEq, AV.bool.injEq, AV.str.injEq, AV.agg.injEq]; done)
    · rw [if_neg (fun h => hc h.1), decide_eq_true (show (8 ≤ n.toNat ∨ l.length - i.toNat < (n.toNat + 1) * p.toNat) by rw [h3]; omega)]
      repeat' first | apply And.intro | intro _
      all_goals first | omega | assumption | trivial | contradiction | exact hq _ ‹_› | (simp [Tree.ok, tyd_inj, packAV, AV.same, AV.same.sameL, encV, encS, enc, inK, Nd.ok, List.headD_cons, List.cons_append, List.nil_append, List.append_nil, true_and, and_true, Bool.true_and, Bool.and_true, loop_next, weakBs_nil, weakBs_cons, weakB_self, weakB_row, weakB_int, weakL_nil, weakL_unk, weakL_guess, isRow_own, isRow_unk, weakL_int, weakL_bool, weakL_str, weakL_own, weakL_view, weakL_nilS, noRow_int, noRow_bool, own_inj, LTree.val, cond_true, cond_false, Prod.mk.injEq, List.cons.injEq, AV.int.injEq, AV.bool.injEq, AV.str.injEq, AV.agg.injEq]; omega) | (simp [Tree.ok, tyd_inj, packAV, AV.same, AV.same.sameL, encV, encS, enc, inK, Nd.ok, List.headD_cons, List.cons_append, List.nil_append, List.append_nil, true_and, and_true, Bool.true_and, Bool.and_true, loop_next, weakBs_nil, weakBs_cons, weakB_self, weakB_row, weakB_int, weakL_nil, weakL_unk, weakL_guess, isRow_own, isRow_unk, weakL_int, weakL_bool, weakL_str, weakL_own, weakL_view, weakL_nilS, noRow_int, noRow_bool, own_inj, LTree.val, cond_true, cond_false, Prod.mk.injEq, List.cons.injEq, AV.int.injEq, AV.bool.injEq, AV.str.injEq, AV.agg.injEq]; done)
  · rw [show 8 - n.toNat = 0 by omega]
    simp only [repsGo]
    have hD : (8 ≤ n.toNat ∨ l.length - i.toNat < (n.toNat + 1) * p.toNat) := by left; omega
    simp only [eq_true hD, decide_true, cond_true]
    repeat' first | apply And.intro | intro _
    all_goals first | omega | assumption | trivial | (simp [Tree.ok, tyd_inj, packAV, AV.same, AV.same.sameL, encV, encS, enc, inK, Nd.ok, List.headD_cons, List.cons_append, List.nil_append, List.append_nil, true_and, and_true, Bool.true_and, Bool.and_true, loop_next, weakBs_nil, weakBs_cons, weakB_self, weakB_row, weakB_int, weakL_nil, weakL_unk, weakL_guess, isRow_own, isRow_unk, weakL_int, weakL_bool, weakL_str, weakL_own, weakL_view, weakL_nilS, noRow_int, noRow_bool, own_inj, LTree.val, cond_true, cond_false, Prod.mk.injEq, List.cons.injEq, AV.int.injEq, AV.bool.injEq, AV.str.injEq, AV.agg.injEq]; omega) | (simp [Tree.ok, tyd_inj, packAV, AV.same, AV.same.sameL, encV, encS, enc, inK, Nd.ok, List.headD_cons, List.cons_append, List.nil_append, List.append_nil, true_and, and_true, Bool.true_and, Bool.and_true, loop_next, weakBs_nil, weakBs_cons, weakB_self, weakB_row, weakB_int, weakL_nil, weakL_unk, weakL_guess, isRow_own, isRow_unk, weakL_int, weakL_bool, weakL_str, weakL_own, weakL_view, weakL_nilS, noRow_int, noRow_bool, own_inj, LTree.val, cond_true, cond_false, Prod.mk.injEq, List.cons.injEq, AV.int.injEq, AV.bool.injEq, AV.str.injEq, AV.agg.injEq]; done)
theorem loops_l19Repeats : ∀ c, Try.f44.body = some c → LoopsOk Try.prog (addL (firstId (loopAt Try.f44 1)) ann_l19Repeats_1 (addL (firstId (loopAt Try.f44 0)) ann_l19Repeats_0 noL)) Try.f44.ntmps c := loopsN fun i hi ann h => by
  have hn : loopN Try.f44 = 2 := by kernel_rfl
  rw [hn] at hi
  exact match i, hi, h with
    | 0, _, h => (Option.some.inj ((show (addL (firstId (loopAt Try.f44 1)) ann_l19Repeats_1 (addL (firstId (loopAt Try.f44 0)) ann_l19Repeats_0 noL)) (firstId (loopAt Try.f44 0)) = some ann_l19Repeats_0 from by kernel_rfl).symm.trans h)) ▸ loop_l19Repeats_0
    | 1, _, h => (Option.some.inj ((show (addL (firstId (loopAt Try.f44 1)) ann_l19Repeats_1 (addL (firstId (loopAt Try.f44 0)) ann_l19Repeats_0 noL)) (firstId (loopAt Try.f44 1)) = some ann_l19Repeats_1 from by kernel_rfl).symm.trans h)) ▸ loop_l19Repeats_1
set_option maxHeartbeats 1000000 in
theorem sat_l19Repeats : Sat Try.prog 44 ct_l19Repeats := by
  refine sat_typed (C := C_Jo_2) (L := (addL (firstId (loopAt Try.f44 1)) ann_l19Repeats_1 (addL (firstId (loopAt Try.f44 0)) ann_l19Repeats_0 noL))) (wr := false) mixedOk Try.func44 C_Jo_2_ok (loops_l19Repeats) (fun _ => by first | rfl | (simp [ownsOf, ownsOf.ownsL, enc, encV, encS])) fun x hp => ?_
  obtain ⟨(l : List tItem.den), (i : Int), (p : Int), _⟩ := x
  replace hp : (l.length ≤ 80 ∧ (0 ≤ i ∧ i + 2 * p ≤ (l.length : Int)) ∧ 1 ≤ p) ∧ ∀ z ∈ l, pLen z.2.1 ≤ 9223372036854775807 := hp
  have htree : exFunc Try.prog C_Jo_2 false (addL (firstId (loopAt Try.f44 1)) ann_l19Repeats_1 (addL (firstId (loopAt Try.f44 0)) ann_l19Repeats_0 noL)) Try.f44 (encA [.v qItem, .v (.int .i64), .v (.int .i64)] (l, i, p, ())) = .need ((l.length ≤ (80 : Nat) ∧ ((0 : Int) ≤ i ∧ i + (2 : Int) * p ≤ (↑l.length : Int)) ∧ (1 : Int) ≤ p ∧ ((1 : Int) ≤ (1 : Int) ∧ (1 : Int) ≤ (8 : Int)) ∧ i + (1 : Int) * p ≤ (↑l.length : Int)) ∧ ∀ (z : ((Ty.int IntKind.i64).pair (((Ty.int IntKind.i64).pair ((Ty.int IntKind.i64).pair (Ty.int IntKind.i64))).seq.pair (((Ty.int IntKind.i64).pair (Ty.int IntKind.i64)).pair ((Ty.int IntKind.i64).pair (((Ty.int IntKind.i64).pair (Ty.int IntKind.i64)).pair (Ty.int IntKind.i64)))))).den), z ∈ l → pLen z.snd.fst ≤ (9223372036854775807 : Int)) (.ite (decide ((8 : Nat) ≤ repsGo (List.drop i.toNat l) p.toNat ((8 : Nat) - Int.toNat (1 : Int)) (Int.toNat (1 : Int)) ∨ (List.drop i.toNat l).length < (repsGo (List.drop i.toNat l) p.toNat ((8 : Nat) - Int.toNat (1 : Int)) (Int.toNat (1 : Int)) + (1 : Nat)) * p.toNat)) (.leaf [.int .i64 ((↑(repsGo (List.drop i.toNat l) p.toNat ((8 : Nat) - Int.toNat (1 : Int)) (Int.toNat (1 : Int))) : Int))]) (.leaf [.int .i64 ((↑(repsGo (List.drop i.toNat l) p.toNat ((8 : Nat) - Int.toNat (1 : Int)) (Int.toNat (1 : Int))) : Int))])) := by kernel_rfl
  refine (congrArg (Tree.ok _) htree).mpr ?_
  clear htree
  simp only [Tree.ok, tyd_inj, packAV, AV.same, AV.same.sameL, encV, encS, enc, inK, Nd.ok, List.headD_cons, List.cons_append, List.nil_append, List.append_nil, true_and, and_true, Bool.true_and, Bool.and_true, repsN, show (1 : Int).toNat = 1 from rfl, show (8 : Nat) - 1 = 7 from rfl, Int.one_mul]
  repeat' first | apply And.intro | intro _
  all_goals first | omega | assumption | trivial | exact hp.1.1 | exact hp.2 _ ‹_› | (simp_all; done)
def C_Jo_3 : FuncId → Option Ct := addC 44 ct_l19Repeats C_Jo_2
theorem C_Jo_3_ok : COk Try.prog C_Jo_3 := addC_ok C_Jo_2_ok sat_l19Repeats
def ann_indexFuncItem_0 : LAnn := { sameS := [0, 1, 6, 7], modS := [4, 8], sameH := [], modH := [], base := 900000, nilE := [], nilB := [], G := fun
  | ⟨[.view (.pair (.int .i64) (.pair (.seq (.pair (.int .i64) (.pair (.int .i64) (.int .i64)))) (.pair (.pair (.int .i64) (.int .i64)) (.pair (.int .i64) (.pair (.pair (.int .i64) (.int .i64)) (.int .i64)))))) zs, .fn 46, .view (.pair (.int .i64) (.pair (.seq (.pair (.int .i64) (.pair (.int .i64) (.int .i64)))) (.pair (.pair (.int .i64) (.int .i64)) (.pair (.int .i64) (.pair (.pair (.int .i64) (.int .i64)) (.int .i64)))))) l, .int .i64 n], [], [.int .i64 r, .int .i64 i], []⟩ => some (.p ((0 ≤ i ∧ i ≤ n) ∧ n = (l.length : Int) ∧ zs = l ∧ l.length ≤ 80), .ite (decide (grpIx l (l.length - i.toNat) i.toNat = -1)) (.leaf (.exit 0) [.int .i64 r, .unk] []) (.leaf .ret [.int .i64 (grpIx l (l.length - i.toNat) i.toNat), .unk] []))
  | _ => none }
def ct_indexFuncItem : Ct := ctOf [.v qItem, .f 46] (fun ((l : List tItem.den), _, _) => .p (l.length ≤ 80)) (fun ((l : List tItem.den), _, _) => .int .i64 (grpIx l l.length 0))
set_option maxHeartbeats 1000000 in
theorem loop_indexFuncItem_0 : LoopSat Try.prog Try.f85.ntmps (loopAt Try.f85 0) ann_indexFuncItem_0 := by
  refine loopSat_of (C := C_Jo_3) (L := (addL (firstId (loopAt Try.f85 0)) ann_indexFuncItem_0 noL)) (wr := false) mixedOk C_Jo_3_ok (loopsIn0 (by kernel_rfl)) (fun d => match d.same, d.vals with | [_, _, _, .int _ n], [_, .int _ i] => (n - i).toNat | _, _ => 0) fun d p t hG hp => ?_
  simp only [ann_indexFuncItem_0] at hG
  split at hG
  rotate_left
  · simp at hG
  rename_i zs l n r i
  simp only [Option.some.injEq, Prod.mk.injEq] at hG
  obtain ⟨rfl, rfl⟩ := hG
  have htree : exRound Try.prog C_Jo_3 false (addL (firstId (loopAt Try.f85 0)) ann_indexFuncItem_0 noL) Try.f85.ntmps ann_indexFuncItem_0 (loopAt Try.f85 0) ⟨[.view tItem zs, .fn 46, .view tItem l, .int .i64 n], [], [.int .i64 r, .int .i64 i], []⟩ = .ite (decide (i < n)) (.need ((0 : Int) ≤ i ∧ i < (↑zs.length : Int)) (.ite (decide ((getT tItem zs i).fst = (4 : Int)) || decide ((getT tItem zs i).fst = (5 : Int))) (.leaf (.ret, ⟨[.view (I64.pair (tPitch.seq.pair (tFrac.pair (I64.pair (tIv.pair I64))))) (zs), .fn 46, .view (I64.pair (tPitch.seq.pair (tFrac.pair (I64.pair (tIv.pair I64))))) (l), .int .i64 (n)], [], [.int .i64 (i), .int .i64 (i)], []⟩)) (.need (inK IntKind.i64 (i + (1 : Int))) (.leaf (.normal, ⟨[.view (I64.pair (tPitch.seq.pair (tFrac.pair (I64.pair (tIv.pair I64))))) (zs), .fn 46, .view (I64.pair (tPitch.seq.pair (tFrac.pair (I64.pair (tIv.pair I64))))) (l), .int .i64 (n)], [], [.int .i64 (r), .int .i64 (i + (1 : Int))], []⟩))))) (.leaf ((.exit 0), ⟨[.view (I64.pair (tPitch.seq.pair (tFrac.pair (I64.pair (tIv.pair I64))))) (zs), .fn 46, .view (I64.pair (tPitch.seq.pair (tFrac.pair (I64.pair (tIv.pair I64))))) (l), .int .i64 (n)], [], [.int .i64 (r), .int .i64 (i)], []⟩)) := by kernel_rfl
  rw [htree]
  clear htree
  replace hp : (0 ≤ i ∧ i ≤ n) ∧ n = (l.length : Int) ∧ zs = l ∧ l.length ≤ 80 := hp
  obtain ⟨hi, hn, rfl, hl⟩ := hp
  simp only [Tree.ok, tyd_inj, packAV, AV.same, AV.same.sameL, encV, encS, enc, inK, Nd.ok, List.headD_cons, List.cons_append, List.nil_append, List.append_nil, true_and, and_true, Bool.true_and, Bool.and_true, loop_next, weakBs_nil, weakBs_cons, weakB_self, weakB_row, weakB_int, weakL_nil, weakL_unk, weakL_guess, isRow_own, isRow_unk, weakL_int, weakL_bool, weakL_str, weakL_own, weakL_view, weakL_nilS, noRow_int, noRow_bool, own_inj, LTree.val, cond_true, cond_false, Prod.mk.injEq, List.cons.injEq, AV.int.injEq, AV.bool.injEq, AV.str.injEq, AV.agg.injEq, ann_indexFuncItem_0, decide_eq_true_eq, decide_eq_false_iff_not, bne_iff_ne, ne_eq, bne_eq_false_iff_eq, Bool.not_eq_true', Bool.not_eq_false', getT_iA]
  refine ⟨fun ha => ?_, fun ha => ?_⟩
  · have h1 := grpIx_step zs i.toNat (by omega)
    have h2 := grpIx_bd zs (zs.length - (i.toNat + 1)) (i.toNat + 1)
    rw [h1, show (i + 1).toNat = i.toNat + 1 by omega]
    clear h1
    generalize grpIx zs (zs.length - (i.toNat + 1)) (i.toNat + 1) = g at *
    obtain ⟨K, P, A1, A2, V1, M1, M2, Z1, he⟩ := i8 (iA zs i.toNat)
    simp only [he, grpB]
    clear he
    cases (decide (K = 4) || decide (K = 5))
    · simp only [Bool.false_eq_true, if_false]
      by_cases hg : g = -1
      all_goals
        simp only [hg]
        repeat' first | apply And.intro | intro _
        all_goals first | omega | assumption | trivial | contradiction | (simp [Tree.ok, tyd_inj, packAV, AV.same, AV.same.sameL, encV, encS, enc, inK, Nd.ok, List.headD_cons, List.cons_append, List.nil_append, List.append_nil, true_and, and_true, Bool.true_and, Bool.and_true, loop_next, weakBs_nil, weakBs_cons, weakB_self, weakB_row, weakB_int, weakL_nil, weakL_unk, weakL_guess, isRow_own, isRow_unk, weakL_int, weakL_bool, weakL_str, weakL_own, weakL_view, weakL_nilS, noRow_int, noRow_bool, own_inj, LTree.val, cond_true, cond_false, Prod.mk.injEq, List.cons.injEq, AV.int.injEq, AV.bool.injEq, AV.str.injEq, AV.agg.injEq, hg]; done) | (simp_all; done)
    · simp only [if_true]
      rw [decide_eq_false (show ¬ ((i.toNat : Nat) : Int) = -1 by omega)]
      repeat' first | apply And.intro | intro _
      all_goals first | omega | assumption | trivial | contradiction | (simp [Tree.ok, tyd_inj, packAV, AV.same, AV.same.sameL, encV, encS, enc, inK, Nd.ok, List.headD_cons, List.cons_append, List.nil_append, List.append_nil, true_and, and_true, Bool.true_and, Bool.and_true, loop_next, weakBs_nil, weakBs_cons, weakB_self, weakB_row, weakB_int, weakL_nil, weakL_unk, weakL_guess, isRow_own, isRow_unk, weakL_int, weakL_bool, weakL_str, weakL_own, weakL_view, weakL_nilS, noRow_int, noRow_bool, own_inj, LTree.val, cond_true, cond_false, Prod.mk.injEq, List.cons.injEq, AV.int.injEq, AV.bool.injEq, AV.str.injEq, AV.agg.injEq]; omega) | (simp_all; done)
  · rw [show zs.length - i.toNat = 0 by omega]
    simp [Tree.ok, tyd_inj, packAV, AV.same, AV.same.sameL, encV, encS, enc, inK, Nd.ok, List.headD_cons, List.cons_append, List.nil_append, List.append_nil, true_and, and_true, Bool.true_and, Bool.and_true, loop_next, weakBs_nil, weakBs_cons, weakB_self, weakB_row, weakB_int, weakL_nil, weakL_unk, weakL_guess, isRow_own, isRow_unk, weakL_int, weakL_bool, weakL_str, weakL_own, weakL_view, weakL_nilS, noRow_int, noRow_bool, own_inj, LTree.val, cond_true, cond_false, Prod.mk.injEq, List.cons.injEq, AV.int.injEq, AV.bool.injEq, AV.str.injEq, AV.agg.injEq, grpIx]
theorem loops_indexFuncItem : ∀ c, Try.f85.body = some c → LoopsOk Try.prog (addL (firstId (loopAt Try.f85 0)) ann_indexFuncItem_0 noL) Try.f85.ntmps c := loopsN fun i hi ann h => by
  have hn : loopN Try.f85 = 1 := by kernel_rfl
  rw [hn] at hi
  exact match i, hi, h with
    | 0, _, h => (Option.some.inj ((show (addL (firstId (loopAt Try.f85 0)) ann_indexFuncItem_0 noL) (firstId (loopAt Try.f85 0)) = some ann_indexFuncItem_0 from by kernel_rfl).symm.trans h)) ▸ loop_indexFuncItem_0
set_option maxHeartbeats 1000000 in
theorem sat_indexFuncItem : Sat Try.prog 85 ct_indexFuncItem := by
  refine sat_typed (C := C_Jo_3) (L := (addL (firstId (loopAt Try.f85 0)) ann_indexFuncItem_0 noL)) (wr := false) mixedOk Try.func85 C_Jo_3_ok (loops_indexFuncItem) (fun _ => by first | rfl | (simp [ownsOf, ownsOf.ownsL, enc, encV, encS])) fun x hp => ?_
  obtain ⟨(l : List tItem.den), _, _⟩ := x
  replace hp : l.length ≤ 80 := hp
  have htree : exFunc Try.prog C_Jo_3 false (addL (firstId (loopAt Try.f85 0)) ann_indexFuncItem_0 noL) Try.f85 (encA [.v qItem, .f 46] (l, (), ())) = .need (((0 : Int) ≤ (0 : Int) ∧ (0 : Int) ≤ (↑l.length : Int)) ∧ (↑l.length : Int) = (↑l.length : Int) ∧ l = l ∧ l.length ≤ (80 : Nat)) (.ite (decide (grpIx l (l.length - Int.toNat (0 : Int)) (Int.toNat (0 : Int)) = (-1 : Int))) (.leaf [.int .i64 ((-1 : Int))]) (.leaf [.int .i64 (grpIx l (l.length - Int.toNat (0 : Int)) (Int.toNat (0 : Int)))])) := by kernel_rfl
  refine (congrArg (Tree.ok _) htree).mpr ?_
  clear htree
  simp only [Tree.ok, tyd_inj, packAV, AV.same, AV.same.sameL, encV, encS, enc, inK, Nd.ok, List.headD_cons, List.cons_append, List.nil_append, List.append_nil, true_and, and_true, Bool.true_and, Bool.and_true, Int.toNat_zero, Nat.sub_zero, decide_eq_true_eq, decide_eq_false_iff_not]
  repeat' first | apply And.intro | intro _
  all_goals first | omega | assumption | trivial | contradiction | (simp_all; done)
def C_Jo_4 : FuncId → Option Ct := addC 85 ct_indexFuncItem C_Jo_3
theorem C_Jo_4_ok : COk Try.prog C_Jo_4 := addC_ok C_Jo_3_ok sat_indexFuncItem
def ct_containsFuncItem : Ct := ctOf [.v qItem, .f 46] (fun ((l : List tItem.den), _, _) => .p (l.length ≤ 80)) (fun ((l : List tItem.den), _, _) => .bool (l.any grpB))
set_option maxHeartbeats 1000000 in
theorem sat_containsFuncItem : Sat Try.prog 45 ct_containsFuncItem := by
  refine sat_typed (C := C_Jo_4) (L := noL) (wr := false) mixedOk Try.func45 C_Jo_4_ok (loops0 (by kernel_rfl)) (fun _ => by first | rfl | (simp [ownsOf, ownsOf.ownsL, enc, encV, encS])) fun x hp => ?_
  obtain ⟨(l : List tItem.den), _, _⟩ := x
  replace hp : l.length ≤ 80 := hp
  have htree : exFunc Try.prog C_Jo_4 false noL Try.f45 (encA [.v qItem, .f 46] (l, (), ())) = .need (l.length ≤ (80 : Nat)) (.leaf [.bool (decide ((0 : Int) ≤ grpIx l l.length (0 : Nat)))]) := by kernel_rfl
  refine (congrArg (Tree.ok _) htree).mpr ?_
  clear htree
  have h := grpIx_any l
  simp only [Tree.ok, tyd_inj, packAV, AV.same, AV.same.sameL, encV, encS, enc, inK, Nd.ok, List.headD_cons, List.cons_append, List.nil_append, List.append_nil, true_and, and_true, Bool.true_and, Bool.and_true, decide_eq_true_eq, decide_eq_false_iff_not]
  repeat' first | apply And.intro | intro _
  all_goals first | omega | assumption | trivial | contradiction | (rw [← h]; done) | (simp_all; done)
def C_Jo_5 : FuncId → Option Ct := addC 45 ct_containsFuncItem C_Jo_4
theorem C_Jo_5_ok : COk Try.prog C_Jo_5 := addC_ok C_Jo_4_ok sat_containsFuncItem

def C_Jo : FuncId → Option Ct := C_Jo_5
theorem C_Jo_ok : COk Try.prog C_Jo := C_Jo_5_ok
end Go.Proofs.Ytemlpimibhijoaa
