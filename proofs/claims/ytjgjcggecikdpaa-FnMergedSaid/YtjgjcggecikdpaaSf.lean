/- Contracts: scores cut; the law. Conditions: as each says. -/
import Derived.Test.YtjgjcggecikdpaaSe
set_option linter.unusedSimpArgs false
set_option linter.unusedVariables false
namespace Go.Proofs.Ytjgjcggecikdpaa
open Go.RowKit Sx
set_option maxRecDepth 100000
set_option maxHeartbeats 1000000
def cuF (t f : tFrac.den) (x : tNote.den) : tNote.den := ((subF x.1.1 x.1.2 f.1 f.2).1, (if 0 < cmpF (endN x).1 (endN x).2 t.1 t.2 then (subF t.1 t.2 x.1.1 x.1.2).1 else x.2.1), x.2.2)
theorem cuF_pos {t f : tFrac.den} {x : tNote.den} (h : 0 < cmpF (endN x).1 (endN x).2 t.1 t.2) : cuF t f x = ((subF x.1.1 x.1.2 f.1 f.2).1, (subF t.1 t.2 x.1.1 x.1.2).1, x.2.2) := by unfold cuF; rw [if_pos h]
theorem cuF_neg {t f : tFrac.den} {x : tNote.den} (h : ¬ 0 < cmpF (endN x).1 (endN x).2 t.1 t.2) : cuF t f x = ((subF x.1.1 x.1.2 f.1 f.2).1, x.2.1, x.2.2) := by unfold cuF; rw [if_neg h]
def keepC (f t : tFrac.den) (x : tNote.den) : Bool := decide (0 ≤ cmpF x.1.1 x.1.2 f.1 f.2) && decide (cmpF x.1.1 x.1.2 t.1 t.2 < 0)
theorem filter_step {α : Type} (f : α → Bool) (xs : List α) (i : Nat) (z : α) (h : i < xs.length) : (xs.drop i).filter f = (if f (xs.getD i z) = true then [xs.getD i z] else []) ++ (xs.drop (i + 1)).filter f := by
  rw [List.drop_eq_getElem_cons h, getD_lt _ _ _ h, List.filter_cons]
  split <;> simp
theorem noteF_fr {x : tNote.den} (h : noteF x = true) : fracBd x.1 := (noteF_bd h).1
def cutS (xs : List tNote.den) (f t : tFrac.den) : List tNote.den × Int := if scoreF xs = true ∧ okF f.1 f.2 = true ∧ okF t.1 t.2 = true then (if (beatF f.1 f.2 = true ∧ beatF t.1 t.2 = true) ∧ cmpF f.1 f.2 t.1 t.2 < 0 then makeS ((xs.filter (keepC f t)).map (cuF t f)) else ([], 2)) else ([], 1)
theorem cutS_len (xs : List tNote.den) (f t : tFrac.den) : (cutS xs f t).1.length ≤ 60 := by
  unfold cutS
  split
  · rename_i h
    have h1 := makeS_len ((xs.filter (keepC f t)).map (cuF t f))
    have h2 := (scoreN h.1).1
    have h3 := List.length_filter_le (keepC f t) xs
    rw [List.length_map] at h1
    split
    · omega
    · simp
  · simp
theorem notes_filter {xs : List tNote.den} {p : tNote.den → Bool} (h : notesF xs = true) : notesF (xs.filter p) = true :=
  List.all_eq_true.2 fun x hx => List.all_eq_true.1 h x (List.mem_filter.1 hx).1
def ct_cloCut : Ct := ctOf [.s tNote, .p tFrac, .p tFrac] (fun ((x : tNote.den), (t : tFrac.den), (f : tFrac.den), _) => .p (noteF x = true ∧ fracBd t)) (fun ((x : tNote.den), (t : tFrac.den), (f : tFrac.den), _) => .agg (enc tNote (cuF t f x)))
set_option maxHeartbeats 1000000 in
theorem sat_cloCut : Sat Try.prog 148 ct_cloCut := by
  refine sat_typed (C := C_Se) (L := noL) (wr := false) mixedOk Try.func148 C_Se_ok (loops0 (by kernel_rfl)) (fun _ => by first | rfl | (simp [ownsOf, ownsOf.ownsL, enc, encV, encS])) fun x hp => ?_
  obtain ⟨(x : tNote.den), (t : tFrac.den), (f : tFrac.den), _⟩ := x
  replace hp : noteF x = true ∧ fracBd t := hp
  have htree : exFunc Try.prog C_Se false noL Try.f148 (encA [.s tNote, .p tFrac, .p tFrac] (x, t, f, ())) = .need ((((1 : Int) ≤ (endN ((x.fst.fst, x.fst.snd), (x.snd.fst.fst, x.snd.fst.snd), x.snd.snd.fst, x.snd.snd.snd.fst, x.snd.snd.snd.snd)).snd ∧ (endN ((x.fst.fst, x.fst.snd), (x.snd.fst.fst, x.snd.fst.snd), x.snd.snd.fst, x.snd.snd.snd.fst, x.snd.snd.snd.snd)).snd ≤ (1000000 : Int)) ∧ (-1000000000 : Int) ≤ (endN ((x.fst.fst, x.fst.snd), (x.snd.fst.fst, x.snd.fst.snd), x.snd.snd.fst, x.snd.snd.snd.fst, x.snd.snd.snd.snd)).fst ∧ (endN ((x.fst.fst, x.fst.snd), (x.snd.fst.fst, x.snd.fst.snd), x.snd.snd.fst, x.snd.snd.snd.fst, x.snd.snd.snd.snd)).fst ≤ (1000000000 : Int)) ∧ ((1 : Int) ≤ t.snd ∧ t.snd ≤ (1000000 : Int)) ∧ (-1000000000 : Int) ≤ t.fst ∧ t.fst ≤ (1000000000 : Int)) (.ite (decide ((0 : Int) < cmpF (endN ((x.fst.fst, x.fst.snd), (x.snd.fst.fst, x.snd.fst.snd), x.snd.snd.fst, x.snd.snd.snd.fst, x.snd.snd.snd.snd)).fst (endN ((x.fst.fst, x.fst.snd), (x.snd.fst.fst, x.snd.fst.snd), x.snd.snd.fst, x.snd.snd.snd.fst, x.snd.snd.snd.snd)).snd t.fst t.snd)) (.leaf [.agg [.int .i64 ((subF x.fst.fst x.fst.snd f.fst f.snd).fst.fst), .int .i64 ((subF x.fst.fst x.fst.snd f.fst f.snd).fst.snd), .int .i64 ((subF t.fst t.snd x.fst.fst x.fst.snd).fst.fst), .int .i64 ((subF t.fst t.snd x.fst.fst x.fst.snd).fst.snd), .int .i64 (x.snd.snd.fst), .int .i64 (x.snd.snd.snd.fst), .int .i64 (x.snd.snd.snd.snd)]]) (.leaf [.agg [.int .i64 ((subF x.fst.fst x.fst.snd f.fst f.snd).fst.fst), .int .i64 ((subF x.fst.fst x.fst.snd f.fst f.snd).fst.snd), .int .i64 (x.snd.fst.fst), .int .i64 (x.snd.fst.snd), .int .i64 (x.snd.snd.fst), .int .i64 (x.snd.snd.snd.fst), .int .i64 (x.snd.snd.snd.snd)]])) := by kernel_rfl
  refine (congrArg (Tree.ok _) htree).mpr ?_
  clear htree
  have g := endN_bd hp.1
  simp only [Tree.ok, tyd_inj, packAV, AV.same, AV.same.sameL, encV, encS, enc, inK, Nd.ok, List.headD_cons, List.cons_append, List.nil_append, List.append_nil, true_and, and_true, Bool.true_and, Bool.and_true, cuF, decide_eq_true_eq, decide_eq_false_iff_not]
  try simp only [etaN]
  refine ⟨⟨g, hp.2⟩, fun hc => ?_, fun hc => ?_⟩
  · simp only [if_pos hc]
    repeat' first | apply And.intro | intro _
    all_goals first | trivial | rfl
  · simp only [if_neg hc]
    repeat' first | apply And.intro | intro _
    all_goals first | trivial | rfl
def C_Sf_1 : FuncId → Option Ct := addC 148 ct_cloCut C_Se
theorem C_Sf_1_ok : COk Try.prog C_Sf_1 := addC_ok C_Se_ok sat_cloCut
def ann_changedCut_0 : LAnn := { sameS := [1, 2, 4, 5, 10, 11, 12], modS := [6, 13], sameH := [2, 4], modH := [], base := 900000, nilE := [], nilB := [], G := fun
  | ⟨[.clo 148 [.velt (.pair (.int .i64) (.int .i64)) t 0, .velt (.pair (.int .i64) (.int .i64)) f 0], .ptr 2 0, .ptr 4 0, .int .i64 r, .ptr 2 0, .view (.pair (.pair (.int .i64) (.int .i64)) (.pair (.pair (.int .i64) (.int .i64)) (.pair (.int .i64) (.pair (.int .i64) (.int .i64))))) xs, .int .i64 n], [.box [.view (.pair (.pair (.int .i64) (.int .i64)) (.pair (.pair (.int .i64) (.int .i64)) (.pair (.int .i64) (.pair (.int .i64) (.int .i64))))) zs], .box [.nilS]], [.own (.pair (.pair (.int .i64) (.int .i64)) (.pair (.pair (.int .i64) (.int .i64)) (.pair (.int .i64) (.pair (.int .i64) (.int .i64))))) out, .int .i64 i], []⟩ => some (.p (((0 ≤ i ∧ i ≤ n) ∧ n = (xs.length : Int) ∧ xs.length ≤ 60 ∧ (out.length : Int) = i) ∧ notesF xs = true ∧ fracBd t), .leaf (.exit 0) [.own tNote (out ++ (xs.drop i.toNat).map (cuF t f)), .int .i64 n] [])
  | _ => none }
def ct_changedCut : Ct := ctOf [.s qNote, .c2 148 tFrac tFrac] (fun ((xs : List tNote.den), ((t : tFrac.den), (f : tFrac.den)), _) => .p ((xs.length ≤ 60 ∧ notesF xs = true) ∧ fracBd t)) (fun ((xs : List tNote.den), ((t : tFrac.den), (f : tFrac.den)), _) => .tup [.agg [.own tNote (makeS (xs.map (cuF t f))).1], .int .i64 (makeS (xs.map (cuF t f))).2])
set_option maxHeartbeats 1000000 in
theorem loop_changedCut_0 : LoopSat Try.prog Try.f66.ntmps (loopAt Try.f66 0) ann_changedCut_0 := by
  refine loopSat_of (C := C_Sf_1) (L := (addL (firstId (loopAt Try.f66 0)) ann_changedCut_0 noL)) (wr := false) mixedOk C_Sf_1_ok (loopsIn0 (by kernel_rfl)) (fun d => match d.same, d.vals with | [_, _, _, _, _, _, .int _ n], [_, .int _ i] => (n - i).toNat | _, _ => 0) fun d p t hG hp => ?_
  simp only [ann_changedCut_0] at hG
  split at hG
  rotate_left
  · simp at hG
  rename_i t f r xs n zs out i
  simp only [Option.some.injEq, Prod.mk.injEq] at hG
  obtain ⟨rfl, rfl⟩ := hG
  have htree : exRound Try.prog C_Sf_1 false (addL (firstId (loopAt Try.f66 0)) ann_changedCut_0 noL) Try.f66.ntmps ann_changedCut_0 (loopAt Try.f66 0) ⟨[.clo 148 [.velt tFrac t 0, .velt tFrac f 0], .ptr 2 0, .ptr 4 0, .int .i64 r, .ptr 2 0, .view tNote xs, .int .i64 n], [.box [.view tNote zs], .box [.nilS]], [.own tNote out, .int .i64 i], []⟩ = .ite (decide (i < n)) (.need ((0 : Int) ≤ i ∧ i < (↑xs.length : Int)) (.need (noteF (((getT tNote xs i).fst.fst, (getT tNote xs i).fst.snd), ((getT tNote xs i).snd.fst.fst, (getT tNote xs i).snd.fst.snd), (getT tNote xs i).snd.snd.fst, (getT tNote xs i).snd.snd.snd.fst, (getT tNote xs i).snd.snd.snd.snd) = true ∧ fracBd (t.fst, t.snd)) (.need (out.length + [(((cuF (t.fst, t.snd) (f.fst, f.snd) (((getT tNote xs i).fst.fst, (getT tNote xs i).fst.snd), ((getT tNote xs i).snd.fst.fst, (getT tNote xs i).snd.fst.snd), (getT tNote xs i).snd.snd.fst, (getT tNote xs i).snd.snd.snd.fst, (getT tNote xs i).snd.snd.snd.snd)).fst.fst, (cuF (t.fst, t.snd) (f.fst, f.snd) (((getT tNote xs i).fst.fst, (getT tNote xs i).fst.snd), ((getT tNote xs i).snd.fst.fst, (getT tNote xs i).snd.fst.snd), (getT tNote xs i).snd.snd.fst, (getT tNote xs i).snd.snd.snd.fst, (getT tNote xs i).snd.snd.snd.snd)).fst.snd), ((cuF (t.fst, t.snd) (f.fst, f.snd) (((getT tNote xs i).fst.fst, (getT tNote xs i).fst.snd), ((getT tNote xs i).snd.fst.fst, (getT tNote xs i).snd.fst.snd), (getT tNote xs i).snd.snd.fst, (getT tNote xs i).snd.snd.snd.fst, (getT tNote xs i).snd.snd.snd.snd)).snd.fst.fst, (cuF (t.fst, t.snd) (f.fst, f.snd) (((getT tNote xs i).fst.fst, (getT tNote xs i).fst.snd), ((getT tNote xs i).snd.fst.fst, (getT tNote xs i).snd.fst.snd), (getT tNote xs i).snd.snd.fst, (getT tNote xs i).snd.snd.snd.fst, (getT tNote xs i).snd.snd.snd.snd)).snd.fst.snd), (cuF (t.fst, t.snd) (f.fst, f.snd) (((getT tNote xs i).fst.fst, (getT tNote xs i).fst.snd), ((getT tNote xs i).snd.fst.fst, (getT tNote xs i).snd.fst.snd), (getT tNote xs i).snd.snd.fst, (getT tNote xs i).snd.snd.snd.fst, (getT tNote xs i).snd.snd.snd.snd)).snd.snd.fst, (cuF (t.fst, t.snd) (f.fst, f.snd) (((getT tNote xs i).fst.fst, (getT tNote xs i).fst.snd), ((getT tNote xs i).snd.fst.fst, (getT tNote xs i).snd.fst.snd), (getT tNote xs i).snd.snd.fst, (getT tNote xs i).snd.snd.snd.fst, (getT tNote xs i).snd.snd.snd.snd)).snd.snd.snd.fst, (cuF (t.fst, t.snd) (f.fst, f.snd) (((getT tNote xs i).fst.fst, (getT tNote xs i).fst.snd), ((getT tNote xs i).snd.fst.fst, (getT tNote xs i).snd.fst.snd), (getT tNote xs i).snd.snd.fst, (getT tNote xs i).snd.snd.snd.fst, (getT tNote xs i).snd.snd.snd.snd)).snd.snd.snd.snd)].length ≤ (16777216 : Nat)) (.need (inK IntKind.i64 (i + (1 : Int))) (.leaf (.normal, ⟨[.clo 148 [.velt (I64.pair I64) (t) ((0 : Nat)), .velt (I64.pair I64) (f) ((0 : Nat))], .ptr 2 0, .ptr 4 0, .int .i64 (r), .ptr 2 0, .view (tFrac.pair (tFrac.pair (I64.pair (I64.pair I64)))) (xs), .int .i64 (n)], [.box [.view (tFrac.pair (tFrac.pair (I64.pair (I64.pair I64)))) (zs)], .box [.nilS]], [.own (tFrac.pair (tFrac.pair (I64.pair (I64.pair I64)))) (out ++ [(((cuF (t.fst, t.snd) (f.fst, f.snd) (((getT tNote xs i).fst.fst, (getT tNote xs i).fst.snd), ((getT tNote xs i).snd.fst.fst, (getT tNote xs i).snd.fst.snd), (getT tNote xs i).snd.snd.fst, (getT tNote xs i).snd.snd.snd.fst, (getT tNote xs i).snd.snd.snd.snd)).fst.fst, (cuF (t.fst, t.snd) (f.fst, f.snd) (((getT tNote xs i).fst.fst, (getT tNote xs i).fst.snd), ((getT tNote xs i).snd.fst.fst, (getT tNote xs i).snd.fst.snd), (getT tNote xs i).snd.snd.fst, (getT tNote xs i).snd.snd.snd.fst, (getT tNote xs i).snd.snd.snd.snd)).fst.snd), ((cuF (t.fst, t.snd) (f.fst, f.snd) (((getT tNote xs i).fst.fst, (getT tNote xs i).fst.snd), ((getT tNote xs i).snd.fst.fst, (getT tNote xs i).snd.fst.snd), (getT tNote xs i).snd.snd.fst, (getT tNote xs i).snd.snd.snd.fst, (getT tNote xs i).snd.snd.snd.snd)).snd.fst.fst, (cuF (t.fst, t.snd) (f.fst, f.snd) (((getT tNote xs i).fst.fst, (getT tNote xs i).fst.snd), ((getT tNote xs i).snd.fst.fst, (getT tNote xs i).snd.fst.snd), (getT tNote xs i).snd.snd.fst, (getT tNote xs i).snd.snd.snd.fst, (getT tNote xs i).snd.snd.snd.snd)).snd.fst.snd), (cuF (t.fst, t.snd) (f.fst, f.snd) (((getT tNote xs i).fst.fst, (getT tNote xs i).fst.snd), ((getT tNote xs i).snd.fst.fst, (getT tNote xs i).snd.fst.snd), (getT tNote xs i).snd.snd.fst, (getT tNote xs i).snd.snd.snd.fst, (getT tNote xs i).snd.snd.snd.snd)).snd.snd.fst, (cuF (t.fst, t.snd) (f.fst, f.snd) (((getT tNote xs i).fst.fst, (getT tNote xs i).fst.snd), ((getT tNote xs i).snd.fst.fst, (getT tNote xs i).snd.fst.snd), (getT tNote xs i).snd.snd.fst, (getT tNote xs i).snd.snd.snd.fst, (getT tNote xs i).snd.snd.snd.snd)).snd.snd.snd.fst, (cuF (t.fst, t.snd) (f.fst, f.snd) (((getT tNote xs i).fst.fst, (getT tNote xs i).fst.snd), ((getT tNote xs i).snd.fst.fst, (getT tNote xs i).snd.fst.snd), (getT tNote xs i).snd.snd.fst, (getT tNote xs i).snd.snd.snd.fst, (getT tNote xs i).snd.snd.snd.snd)).snd.snd.snd.snd)]), .int .i64 (i + (1 : Int))], []⟩)))))) (.leaf ((.exit 0), ⟨[.clo 148 [.velt (I64.pair I64) (t) ((0 : Nat)), .velt (I64.pair I64) (f) ((0 : Nat))], .ptr 2 0, .ptr 4 0, .int .i64 (r), .ptr 2 0, .view (tFrac.pair (tFrac.pair (I64.pair (I64.pair I64)))) (xs), .int .i64 (n)], [.box [.view (tFrac.pair (tFrac.pair (I64.pair (I64.pair I64)))) (zs)], .box [.nilS]], [.own (tFrac.pair (tFrac.pair (I64.pair (I64.pair I64)))) (out), .int .i64 (i)], []⟩)) := by kernel_rfl
  rw [htree]
  clear htree
  replace hp : ((0 ≤ i ∧ i ≤ n) ∧ n = (xs.length : Int) ∧ xs.length ≤ 60 ∧ (out.length : Int) = i) ∧ notesF xs = true ∧ fracBd t := hp
  simp only [Tree.ok, tyd_inj, packAV, AV.same, AV.same.sameL, encV, encS, enc, inK, Nd.ok, List.headD_cons, List.cons_append, List.nil_append, List.append_nil, true_and, and_true, Bool.true_and, Bool.and_true, loop_next, weakBs_nil, weakBs_cons, weakB_self, weakB_row, weakB_int, weakL_nil, weakL_unk, weakL_guess, isRow_own, isRow_unk, weakL_int, weakL_bool, weakL_str, weakL_own, weakL_view, weakL_nilS, noRow_int, noRow_bool, own_inj, LTree.val, cond_true, cond_false, Prod.mk.injEq, List.cons.injEq, AV.int.injEq, AV.bool.injEq, AV.str.injEq, AV.agg.injEq, ann_changedCut_0, decide_eq_true_eq, decide_eq_false_iff_not, getT, etaN]
  try simp only [etaF]
  refine ⟨fun ha => ?_, fun ha => ?_⟩
  · have h1 := map_step (cuF t f) xs i.toNat tNote.zero (by omega)
    have g1 := notesF_get hp.2.1 i.toNat tNote.zero (by omega)
    rw [show (i + 1).toNat = i.toNat + 1 by omega, h1]
    simp only [List.length_append, List.length_cons, List.length_nil, List.append_assoc, List.cons_append, List.nil_append]
    refine ⟨by omega, ⟨g1, hp.2.2⟩, by omega, by omega, by omega, ⟨⟨by omega, hp.1.2.1, hp.1.2.2.1, by omega⟩, hp.2⟩, ?_⟩
    repeat' first | apply And.intro | intro _
    all_goals first | rfl | trivial
  · rw [show i.toNat = xs.length by omega, List.drop_length]
    simp [Tree.ok, tyd_inj, packAV, AV.same, AV.same.sameL, encV, encS, enc, inK, Nd.ok, List.headD_cons, List.cons_append, List.nil_append, List.append_nil, true_and, and_true, Bool.true_and, Bool.and_true, loop_next, weakBs_nil, weakBs_cons, weakB_self, weakB_row, weakB_int, weakL_nil, weakL_unk, weakL_guess, isRow_own, isRow_unk, weakL_int, weakL_bool, weakL_str, weakL_own, weakL_view, weakL_nilS, noRow_int, noRow_bool, own_inj, LTree.val, cond_true, cond_false, Prod.mk.injEq, List.cons.injEq, AV.int.injEq, AV.bool.injEq, AV.str.injEq, AV.agg.injEq]
    omega
theorem loops_changedCut : ∀ c, Try.f66.body = some c → LoopsOk Try.prog (addL (firstId (loopAt Try.f66 0)) ann_changedCut_0 noL) Try.f66.ntmps c := loopsN fun i hi ann h => by
  have hn : loopN Try.f66 = 1 := by kernel_rfl
  rw [hn] at hi
  exact match i, hi, h with
    | 0, _, h => (Option.some.inj ((show (addL (firstId (loopAt Try.f66 0)) ann_changedCut_0 noL) (firstId (loopAt Try.f66 0)) = some ann_changedCut_0 from by kernel_rfl).symm.trans h)) ▸ loop_changedCut_0
set_option maxHeartbeats 1000000 in
theorem sat_changedCut : Sat Try.prog 66 ct_changedCut := by
  refine sat_typed (C := C_Sf_1) (L := (addL (firstId (loopAt Try.f66 0)) ann_changedCut_0 noL)) (wr := false) mixedOk Try.func66 C_Sf_1_ok (loops_changedCut) (fun _ => by first | rfl | (simp [ownsOf, ownsOf.ownsL, enc, encV, encS])) fun x hp => ?_
  obtain ⟨(xs : List tNote.den), ⟨(t : tFrac.den), (f : tFrac.den)⟩, _⟩ := x
  replace hp : (xs.length ≤ 60 ∧ notesF xs = true) ∧ fracBd t := hp
  have htree : exFunc Try.prog C_Sf_1 false (addL (firstId (loopAt Try.f66 0)) ann_changedCut_0 noL) Try.f66 (encA [.s qNote, .c2 148 tFrac tFrac] (xs, (t, f), ())) = .need ((((0 : Int) ≤ (0 : Int) ∧ (0 : Int) ≤ (↑xs.length : Int)) ∧ (↑xs.length : Int) = (↑xs.length : Int) ∧ xs.length ≤ (60 : Nat) ∧ (↑(0 : Nat) : Int) = (0 : Int)) ∧ notesF xs = true ∧ fracBd t) (.need ((↑([] ++ List.map (cuF t f) (List.drop (Int.toNat (0 : Int)) xs)).length : Int) ≤ (9223372036854775807 : Int)) (.ite (!notesF ([] ++ List.map (cuF t f) (List.drop (Int.toNat (0 : Int)) xs))) (.leaf [.agg [.nilS], .int .i64 ((2 : Int))]) (.need (([] ++ List.map (cuF t f) (List.drop (Int.toNat (0 : Int)) xs)).length ≤ (1000 : Nat) ∧ AllOk goodN ([] ++ List.map (cuF t f) (List.drop (Int.toNat (0 : Int)) xs))) (.need ((srt ltN ([] ++ List.map (cuF t f) (List.drop (Int.toNat (0 : Int)) xs))).length ≤ (1000 : Nat) ∧ AllOk goodN (srt ltN ([] ++ List.map (cuF t f) (List.drop (Int.toNat (0 : Int)) xs)))) (.ite (twinB (srt ltN ([] ++ List.map (cuF t f) (List.drop (Int.toNat (0 : Int)) xs)))) (.leaf [.agg [.nilS], .int .i64 ((4 : Int))]) (.leaf [.agg [.own (tFrac.pair (tFrac.pair (I64.pair (I64.pair I64)))) (srt ltN ([] ++ List.map (cuF t f) (List.drop (Int.toNat (0 : Int)) xs)))], .int .i64 ((0 : Int))])))))) := by kernel_rfl
  refine (congrArg (Tree.ok _) htree).mpr ?_
  clear htree
  have hs := hp.1
  have hk := @notesOk (xs.map (cuF t f))
  have hl : (xs.map (cuF t f)).length = xs.length := List.length_map _
  simp only [Tree.ok, tyd_inj, packAV, AV.same, AV.same.sameL, encV, encS, enc, inK, Nd.ok, List.headD_cons, List.cons_append, List.nil_append, List.append_nil, true_and, and_true, Bool.true_and, Bool.and_true, makeS, Int.toNat_zero, List.drop_zero, List.nil_append, srt_len]
  generalize xs.map (cuF t f) = ys at *
  cases h2 : notesF ys
  · simp
    repeat' first | apply And.intro | intro _
    all_goals first | omega | exact hs.1 | exact hs.2 | exact hp.2.1.1 | exact hp.2.1.2 | exact hp.2.2.1 | exact hp.2.2.2
  · have hk := hk h2
    cases h3 : twinB (srt ltN ys)
    all_goals
      simp only [if_true, Bool.not_true, Bool.false_eq_true, if_false]
      repeat' first | apply And.intro | intro _
      all_goals first | omega | exact hs.1 | exact hs.2 | exact hp.2.1.1 | exact hp.2.1.2 | exact hp.2.2.1 | exact hp.2.2.2 | exact hk _ ‹_› | exact hk.srt _ ‹_› | trivial | assumption | contradiction | rfl | (simp at *; done)
def C_Sf_2 : FuncId → Option Ct := addC 66 ct_changedCut C_Sf_1
theorem C_Sf_2_ok : COk Try.prog C_Sf_2 := addC_ok C_Sf_1_ok sat_changedCut
def ann_iCut_0 : LAnn := { sameS := [3, 4, 5, 6, 7, 8, 38, 39, 40], modS := [41], sameH := [3, 4, 5, 6], modH := [8], base := 900000, nilE := [], nilB := [⟨8, 0, 800000, tNote⟩], G := fun
  | ⟨[.ptr 3 0, .ptr 4 0, .ptr 5 0, .ptr 6 0, .int .i64 r, .ptr 8 0, .ptr 3 0, .view (.pair (.pair (.int .i64) (.int .i64)) (.pair (.pair (.int .i64) (.int .i64)) (.pair (.int .i64) (.pair (.int .i64) (.int .i64))))) xs, .int .i64 n], [.box [.view (.pair (.pair (.int .i64) (.int .i64)) (.pair (.pair (.int .i64) (.int .i64)) (.pair (.int .i64) (.pair (.int .i64) (.int .i64))))) zs], .box [.int .i64 a, .int .i64 b], .box [.int .i64 c, .int .i64 d], .box [.nilS]], [.int .i64 i], [[.own (.pair (.pair (.int .i64) (.int .i64)) (.pair (.pair (.int .i64) (.int .i64)) (.pair (.int .i64) (.pair (.int .i64) (.int .i64))))) out]]⟩ => some (.p (((0 ≤ i ∧ i ≤ n) ∧ n = (xs.length : Int) ∧ xs.length ≤ 60 ∧ (out.length : Int) ≤ i) ∧ notesF xs = true ∧ fracBd (a, b) ∧ fracBd (c, d)), .leaf (.exit 0) [.int .i64 n] [[.own tNote (out ++ (xs.drop i.toNat).filter (keepC (a, b) (c, d)))]])
  | _ => none }
def ct_iCut : Ct := ctOf [.s qNote, .s tFrac, .s tFrac] (fun ((xs : List tNote.den), (v : tFrac.den), (u : tFrac.den), _) => .p ((xs.length : Int) ≤ 9223372036854775807)) (fun ((xs : List tNote.den), (v : tFrac.den), (u : tFrac.den), _) => .tup [.agg [.own tNote (cutS xs v u).1], .int .i64 (cutS xs v u).2])
set_option maxHeartbeats 1000000 in
theorem loop_iCut_0 : LoopSat Try.prog Try.f55.ntmps (loopAt Try.f55 0) ann_iCut_0 := by
  refine loopSat_of (C := C_Sf_2) (L := (addL (firstId (loopAt Try.f55 0)) ann_iCut_0 noL)) (wr := false) mixedOk C_Sf_2_ok (loopsIn0 (by kernel_rfl)) (fun d => match d.same, d.vals with | [_, _, _, _, _, _, _, _, .int _ n], [.int _ i] => (n - i).toNat | _, _ => 0) fun d p t hG hp => ?_
  simp only [ann_iCut_0] at hG
  split at hG
  rotate_left
  · simp at hG
  rename_i r xs n zs a b c d i out
  simp only [Option.some.injEq, Prod.mk.injEq] at hG
  obtain ⟨rfl, rfl⟩ := hG
  have htree : exRound Try.prog C_Sf_2 false (addL (firstId (loopAt Try.f55 0)) ann_iCut_0 noL) Try.f55.ntmps ann_iCut_0 (loopAt Try.f55 0) ⟨[.ptr 3 0, .ptr 4 0, .ptr 5 0, .ptr 6 0, .int .i64 r, .ptr 8 0, .ptr 3 0, .view tNote xs, .int .i64 n], [.box [.view tNote zs], .box [.int .i64 a, .int .i64 b], .box [.int .i64 c, .int .i64 d], .box [.nilS]], [.int .i64 i], [[.own tNote out]]⟩ = .ite (decide (i < n)) (.need ((0 : Int) ≤ i ∧ i < (↑xs.length : Int)) (.need ((((1 : Int) ≤ (getT tNote xs i).fst.snd ∧ (getT tNote xs i).fst.snd ≤ (1000000 : Int)) ∧ (-1000000000 : Int) ≤ (getT tNote xs i).fst.fst ∧ (getT tNote xs i).fst.fst ≤ (1000000000 : Int)) ∧ ((1 : Int) ≤ b ∧ b ≤ (1000000 : Int)) ∧ (-1000000000 : Int) ≤ a ∧ a ≤ (1000000000 : Int)) (.ite (decide ((0 : Int) ≤ cmpF (getT tNote xs i).fst.fst (getT tNote xs i).fst.snd a b)) (.need ((((1 : Int) ≤ (getT tNote xs i).fst.snd ∧ (getT tNote xs i).fst.snd ≤ (1000000 : Int)) ∧ (-1000000000 : Int) ≤ (getT tNote xs i).fst.fst ∧ (getT tNote xs i).fst.fst ≤ (1000000000 : Int)) ∧ ((1 : Int) ≤ d ∧ d ≤ (1000000 : Int)) ∧ (-1000000000 : Int) ≤ c ∧ c ≤ (1000000000 : Int)) (.ite (decide (cmpF (getT tNote xs i).fst.fst (getT tNote xs i).fst.snd c d < (0 : Int))) (.need (out.length + [(((getT tNote xs i).fst.fst, (getT tNote xs i).fst.snd), ((getT tNote xs i).snd.fst.fst, (getT tNote xs i).snd.fst.snd), (getT tNote xs i).snd.snd.fst, (getT tNote xs i).snd.snd.snd.fst, (getT tNote xs i).snd.snd.snd.snd)].length ≤ (16777216 : Nat)) (.need (inK IntKind.i64 (i + (1 : Int))) (.leaf (.normal, ⟨[.ptr 3 0, .ptr 4 0, .ptr 5 0, .ptr 6 0, .int .i64 (r), .ptr 8 0, .ptr 3 0, .view (tFrac.pair (tFrac.pair (I64.pair (I64.pair I64)))) (xs), .int .i64 (n)], [.box [.view (tFrac.pair (tFrac.pair (I64.pair (I64.pair I64)))) (zs)], .box [.int .i64 (a), .int .i64 (b)], .box [.int .i64 (c), .int .i64 (d)], .box [.nilS]], [.int .i64 (i + (1 : Int))], [[.own (tFrac.pair (tFrac.pair (I64.pair (I64.pair I64)))) (out ++ [(((getT tNote xs i).fst.fst, (getT tNote xs i).fst.snd), ((getT tNote xs i).snd.fst.fst, (getT tNote xs i).snd.fst.snd), (getT tNote xs i).snd.snd.fst, (getT tNote xs i).snd.snd.snd.fst, (getT tNote xs i).snd.snd.snd.snd)])]]⟩)))) (.need (inK IntKind.i64 (i + (1 : Int))) (.leaf (.normal, ⟨[.ptr 3 0, .ptr 4 0, .ptr 5 0, .ptr 6 0, .int .i64 (r), .ptr 8 0, .ptr 3 0, .view (tFrac.pair (tFrac.pair (I64.pair (I64.pair I64)))) (xs), .int .i64 (n)], [.box [.view (tFrac.pair (tFrac.pair (I64.pair (I64.pair I64)))) (zs)], .box [.int .i64 (a), .int .i64 (b)], .box [.int .i64 (c), .int .i64 (d)], .box [.nilS]], [.int .i64 (i + (1 : Int))], [[.own (tFrac.pair (tFrac.pair (I64.pair (I64.pair I64)))) (out)]]⟩))))) (.need (inK IntKind.i64 (i + (1 : Int))) (.leaf (.normal, ⟨[.ptr 3 0, .ptr 4 0, .ptr 5 0, .ptr 6 0, .int .i64 (r), .ptr 8 0, .ptr 3 0, .view (tFrac.pair (tFrac.pair (I64.pair (I64.pair I64)))) (xs), .int .i64 (n)], [.box [.view (tFrac.pair (tFrac.pair (I64.pair (I64.pair I64)))) (zs)], .box [.int .i64 (a), .int .i64 (b)], .box [.int .i64 (c), .int .i64 (d)], .box [.nilS]], [.int .i64 (i + (1 : Int))], [[.own (tFrac.pair (tFrac.pair (I64.pair (I64.pair I64)))) (out)]]⟩)))))) (.leaf ((.exit 0), ⟨[.ptr 3 0, .ptr 4 0, .ptr 5 0, .ptr 6 0, .int .i64 (r), .ptr 8 0, .ptr 3 0, .view (tFrac.pair (tFrac.pair (I64.pair (I64.pair I64)))) (xs), .int .i64 (n)], [.box [.view (tFrac.pair (tFrac.pair (I64.pair (I64.pair I64)))) (zs)], .box [.int .i64 (a), .int .i64 (b)], .box [.int .i64 (c), .int .i64 (d)], .box [.nilS]], [.int .i64 (i)], [[.own (tFrac.pair (tFrac.pair (I64.pair (I64.pair I64)))) (out)]]⟩)) := by kernel_rfl
  rw [htree]
  clear htree
  replace hp : ((0 ≤ i ∧ i ≤ n) ∧ n = (xs.length : Int) ∧ xs.length ≤ 60 ∧ (out.length : Int) ≤ i) ∧ notesF xs = true ∧ fracBd (a, b) ∧ fracBd (c, d) := hp
  simp only [Tree.ok, tyd_inj, packAV, AV.same, AV.same.sameL, encV, encS, enc, inK, Nd.ok, List.headD_cons, List.cons_append, List.nil_append, List.append_nil, true_and, and_true, Bool.true_and, Bool.and_true, loop_next, weakBs_nil, weakBs_cons, weakB_self, weakB_row, weakB_int, weakL_nil, weakL_unk, weakL_guess, isRow_own, isRow_unk, weakL_int, weakL_bool, weakL_str, weakL_own, weakL_view, weakL_nilS, noRow_int, noRow_bool, own_inj, LTree.val, cond_true, cond_false, Prod.mk.injEq, List.cons.injEq, AV.int.injEq, AV.bool.injEq, AV.str.injEq, AV.agg.injEq, ann_iCut_0, decide_eq_true_eq, decide_eq_false_iff_not]
  simp only [getT, etaN]
  refine ⟨fun ha => ?_, fun ha => ?_⟩
  · have h1 := filter_step (keepC (a, b) (c, d)) xs i.toNat tNote.zero (by omega)
    have g1 := noteF_fr (notesF_get hp.2.1 i.toNat tNote.zero (by omega))
    rw [show (i + 1).toNat = i.toNat + 1 by omega, h1]
    simp only [List.length_append, List.length_cons, List.length_nil]
    by_cases c1 : 0 ≤ cmpF (xs.getD i.toNat tNote.zero).1.1 (xs.getD i.toNat tNote.zero).1.2 a b
    · by_cases c2 : cmpF (xs.getD i.toNat tNote.zero).1.1 (xs.getD i.toNat tNote.zero).1.2 c d < 0
      · have hk : keepC (a, b) (c, d) (xs.getD i.toNat tNote.zero) = true := by simp only [keepC, Bool.and_eq_true, decide_eq_true_eq]; exact ⟨c1, c2⟩
        rw [if_pos hk, List.append_assoc]
        refine ⟨by omega, ⟨g1, hp.2.2.1⟩, fun _ => ⟨⟨g1, hp.2.2.2⟩, fun _ => ?_, fun h => absurd c2 h⟩, fun h => absurd c1 h⟩
        repeat' first | apply And.intro | intro _
        all_goals first | omega | exact hp.2.1 | trivial | rfl | assumption | exact hp.2.2.1.1.1 | exact hp.2.2.1.1.2 | exact hp.2.2.1.2.1 | exact hp.2.2.1.2.2 | exact hp.2.2.2.1.1 | exact hp.2.2.2.1.2 | exact hp.2.2.2.2.1 | exact hp.2.2.2.2.2
      · have hk : ¬ keepC (a, b) (c, d) (xs.getD i.toNat tNote.zero) = true := by simp only [keepC, Bool.and_eq_true, decide_eq_true_eq]; exact fun h => c2 h.2
        rw [if_neg hk, List.nil_append]
        refine ⟨by omega, ⟨g1, hp.2.2.1⟩, fun _ => ⟨⟨g1, hp.2.2.2⟩, fun h => absurd h c2, fun _ => ?_⟩, fun h => absurd c1 h⟩
        repeat' first | apply And.intro | intro _
        all_goals first | omega | exact hp.2.1 | trivial | rfl | assumption | exact hp.2.2.1.1.1 | exact hp.2.2.1.1.2 | exact hp.2.2.1.2.1 | exact hp.2.2.1.2.2 | exact hp.2.2.2.1.1 | exact hp.2.2.2.1.2 | exact hp.2.2.2.2.1 | exact hp.2.2.2.2.2
    · have hk : ¬ keepC (a, b) (c, d) (xs.getD i.toNat tNote.zero) = true := by simp only [keepC, Bool.and_eq_true, decide_eq_true_eq]; exact fun h => c1 h.1
      rw [if_neg hk, List.nil_append]
      refine ⟨by omega, ⟨g1, hp.2.2.1⟩, fun h => absurd h c1, fun _ => ?_⟩
      repeat' first | apply And.intro | intro _
      all_goals first | omega | exact hp.2.1 | trivial | rfl | assumption | exact hp.2.2.1.1.1 | exact hp.2.2.1.1.2 | exact hp.2.2.1.2.1 | exact hp.2.2.1.2.2 | exact hp.2.2.2.1.1 | exact hp.2.2.2.1.2 | exact hp.2.2.2.2.1 | exact hp.2.2.2.2.2
  · rw [show i.toNat = xs.length by omega, List.drop_length]
    simp [Tree.ok, tyd_inj, packAV, AV.same, AV.same.sameL, encV, encS, enc, inK, Nd.ok, List.headD_cons, List.cons_append, List.nil_append, List.append_nil, true_and, and_true, Bool.true_and, Bool.and_true, loop_next, weakBs_nil, weakBs_cons, weakB_self, weakB_row, weakB_int, weakL_nil, weakL_unk, weakL_guess, isRow_own, isRow_unk, weakL_int, weakL_bool, weakL_str, weakL_own, weakL_view, weakL_nilS, noRow_int, noRow_bool, own_inj, LTree.val, cond_true, cond_false, Prod.mk.injEq, List.cons.injEq, AV.int.injEq, AV.bool.injEq, AV.str.injEq, AV.agg.injEq]
    omega
theorem loops_iCut : ∀ c, Try.f55.body = some c → LoopsOk Try.prog (addL (firstId (loopAt Try.f55 0)) ann_iCut_0 noL) Try.f55.ntmps c := loopsN fun i hi ann h => by
  have hn : loopN Try.f55 = 1 := by kernel_rfl
  rw [hn] at hi
  exact match i, hi, h with
    | 0, _, h => (Option.some.inj ((show (addL (firstId (loopAt Try.f55 0)) ann_iCut_0 noL) (firstId (loopAt Try.f55 0)) = some ann_iCut_0 from by kernel_rfl).symm.trans h)) ▸ loop_iCut_0
set_option maxHeartbeats 1000000 in
theorem sat_iCut : Sat Try.prog 55 ct_iCut := by
  refine sat_typed (C := C_Sf_2) (L := (addL (firstId (loopAt Try.f55 0)) ann_iCut_0 noL)) (wr := false) mixedOk Try.func55 C_Sf_2_ok (loops_iCut) (fun _ => by first | rfl | (simp [ownsOf, ownsOf.ownsL, enc, encV, encS])) fun x hp => ?_
  obtain ⟨(xs : List tNote.den), (v : tFrac.den), (u : tFrac.den), _⟩ := x
  replace hp : (xs.length : Int) ≤ 9223372036854775807 := hp
  have htree : exFunc Try.prog C_Sf_2 false (addL (firstId (loopAt Try.f55 0)) ann_iCut_0 noL) Try.f55 (encA [.s qNote, .s tFrac, .s tFrac] (xs, v, u, ())) = .need ((↑xs.length : Int) ≤ (9223372036854775807 : Int)) (.ite (!scoreF xs) (.leaf [.agg [.nilS], .int .i64 ((1 : Int))]) (.need ((↑[(v.fst, v.snd), (u.fst, u.snd)].length : Int) ≤ (9223372036854775807 : Int)) (.ite (!okFs [(v.fst, v.snd), (u.fst, u.snd)]) (.leaf [.agg [.nilS], .int .i64 ((1 : Int))]) (.ite (!beatF v.fst v.snd) (.leaf [.agg [.nilS], .int .i64 ((2 : Int))]) (.ite (!beatF u.fst u.snd) (.leaf [.agg [.nilS], .int .i64 ((2 : Int))]) (.need ((((1 : Int) ≤ v.snd ∧ v.snd ≤ (1000000 : Int)) ∧ (-1000000000 : Int) ≤ v.fst ∧ v.fst ≤ (1000000000 : Int)) ∧ ((1 : Int) ≤ u.snd ∧ u.snd ≤ (1000000 : Int)) ∧ (-1000000000 : Int) ≤ u.fst ∧ u.fst ≤ (1000000000 : Int)) (.ite (decide ((0 : Int) ≤ cmpF v.fst v.snd u.fst u.snd)) (.leaf [.agg [.nilS], .int .i64 ((2 : Int))]) (.need ((((0 : Int) ≤ (0 : Int) ∧ (0 : Int) ≤ (↑xs.length : Int)) ∧ (↑xs.length : Int) = (↑xs.length : Int) ∧ xs.length ≤ (60 : Nat) ∧ (↑(0 : Nat) : Int) ≤ (0 : Int)) ∧ notesF xs = true ∧ fracBd (v.fst, v.snd) ∧ fracBd (u.fst, u.snd)) (.need ((([] ++ List.filter (keepC (v.fst, v.snd) (u.fst, u.snd)) (List.drop (Int.toNat (0 : Int)) xs)).length ≤ (60 : Nat) ∧ notesF ([] ++ List.filter (keepC (v.fst, v.snd) (u.fst, u.snd)) (List.drop (Int.toNat (0 : Int)) xs)) = true) ∧ fracBd (u.fst, u.snd)) (.leaf [.agg [.own (tFrac.pair (tFrac.pair (I64.pair (I64.pair I64)))) ((makeS (List.map (cuF (u.fst, u.snd) (v.fst, v.snd)) ([] ++ List.filter (keepC (v.fst, v.snd) (u.fst, u.snd)) (List.drop (Int.toNat (0 : Int)) xs)))).fst)], .int .i64 ((makeS (List.map (cuF (u.fst, u.snd) (v.fst, v.snd)) ([] ++ List.filter (keepC (v.fst, v.snd) (u.fst, u.snd)) (List.drop (Int.toNat (0 : Int)) xs)))).snd)])))))))))) := by kernel_rfl
  refine (congrArg (Tree.ok _) htree).mpr ?_
  clear htree
  have hs := @scoreN xs
  have b1 := @okF_bd v.1 v.2
  have b2 := @okF_bd u.1 u.2
  have n1 := @notes_filter xs (keepC v u)
  have l1 := List.length_filter_le (keepC v u) xs
  have hm : (makeS ((xs.filter (keepC v u)).map (cuF u v))).1.length ≤ xs.length := by
    have := makeS_len ((xs.filter (keepC v u)).map (cuF u v))
    rw [List.length_map] at this; omega
  simp only [Tree.ok, tyd_inj, packAV, AV.same, AV.same.sameL, encV, encS, enc, inK, Nd.ok, List.headD_cons, List.cons_append, List.nil_append, List.append_nil, true_and, and_true, Bool.true_and, Bool.and_true, cutS, okFs, List.all_cons, List.all_nil, List.length_cons, List.length_nil, Int.toNat_zero, List.drop_zero, List.nil_append, decide_eq_true_eq, decide_eq_false_iff_not]
  try simp only [etaF]
  cases h0 : scoreF xs
  · simp; omega
  · have hs := hs h0
    cases o1 : okF v.1 v.2
    · simp; omega
    · cases o2 : okF u.1 u.2
      · simp; omega
      · have b1 : fracBd v := b1 o1
        have b2 : fracBd u := b2 o2
        have n1 := n1 hs.2
        cases p1 : beatF v.1 v.2
        · simp; omega
        · cases p2 : beatF u.1 u.2
          · simp; omega
          · by_cases hc : cmpF v.1 v.2 u.1 u.2 < 0
            all_goals
              simp only [hc]
              simp
              repeat' first | apply And.intro | intro _
              all_goals first | omega | exact b1.1.1 | exact b1.1.2 | exact b1.2.1 | exact b1.2.2 | exact b2.1.1 | exact b2.1.2 | exact b2.2.1 | exact b2.2.2 | exact hs.1 | exact hs.2 | exact n1 | exact Nat.le_trans l1 hs.1 | trivial | (exfalso; omega)
def C_Sf_3 : FuncId → Option Ct := addC 55 ct_iCut C_Sf_2
theorem C_Sf_3_ok : COk Try.prog C_Sf_3 := addC_ok C_Sf_2_ok sat_iCut

def C_Sf : FuncId → Option Ct := C_Sf_3
theorem C_Sf_ok : COk Try.prog C_Sf := C_Sf_3_ok
end Go.Proofs.Ytjgjcggecikdpaa
