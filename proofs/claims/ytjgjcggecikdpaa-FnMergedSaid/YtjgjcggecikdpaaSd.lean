/- Contracts: scores transposed, inverted, shifted, stretched, reversed; the laws. Conditions: as each says. -/
import Derived.Test.YtjgjcggecikdpaaSc
set_option linter.unusedSimpArgs false
set_option linter.unusedVariables false
namespace Go.Proofs.Ytjgjcggecikdpaa
open Go.RowKit Sx
set_option maxRecDepth 100000
set_option maxHeartbeats 1000000
theorem map_step {α β : Type} (f : α → β) (xs : List α) (i : Nat) (z : α) (h : i < xs.length) : (xs.drop i).map f = f (xs.getD i z) :: (xs.drop (i + 1)).map f := by
  rw [List.drop_eq_getElem_cons h, getD_lt _ _ _ h, List.map_cons]
theorem set_map {α : Type} (f : α → α) (xs : List α) (i : Nat) (z y : α) (h : i < xs.length) (hy : y = f (xs.getD i z)) : (xs.set i y).take (i + 1) ++ ((xs.set i y).drop (i + 1)).map f = xs.take i ++ (xs.drop i).map f := by
  subst hy
  rw [map_step f xs i z h, List.drop_set_of_lt (by omega), List.take_succ_eq_append_getElem (by simp; omega)]
  simp [List.take_set]
  rw [List.set_eq_of_length_le (by simp; omega)]
theorem scoreN {xs : List tNote.den} (h : scoreF xs = true) : xs.length ≤ 60 ∧ notesF xs = true := score_notes h
def bnd (v : Int) : Int := max (-1000) (min 1000 v)
def trF (v : Int) (x : tNote.den) : tNote.den := (x.1, x.2.1, x.2.2.1 + bnd v, x.2.2.2)
def trG (v : Int) (x : tNote.den) : tNote.den := (x.1, x.2.1, x.2.2.1 + v, x.2.2.2)
def inF (v : Int) (x : tNote.den) : tNote.den := (x.1, x.2.1, 2 * bnd v - x.2.2.1, x.2.2.2)
def inG (v : Int) (x : tNote.den) : tNote.den := (x.1, x.2.1, 2 * v - x.2.2.1, x.2.2.2)
def shF (v : tFrac.den) (x : tNote.den) : tNote.den := ((addF x.1.1 x.1.2 v.1 v.2).1, x.2)
def stF (v : tFrac.den) (x : tNote.den) : tNote.den := ((mulF x.1.1 x.1.2 v.1 v.2).1, (mulF x.2.1.1 x.2.1.2 v.1 v.2).1, x.2.2)
def reF (v : tFrac.den) (x : tNote.den) : tNote.den := ((subF v.1 v.2 (endN x).1 (endN x).2).1, x.2)
def keyS (ok : Bool) (F : tNote.den → tNote.den) (xs : List tNote.den) : List tNote.den × Int := if scoreF xs = true ∧ ok = true then makeS (xs.map F) else ([], 1)
theorem keyS_len (ok : Bool) (F : tNote.den → tNote.den) (xs : List tNote.den) : (keyS ok F xs).1.length ≤ 60 := by
  unfold keyS
  split
  · rename_i h
    have h1 := makeS_len (xs.map F)
    have h2 := (scoreN h.1).1
    rw [List.length_map] at h1
    omega
  · simp
/-- A key out of bounds is no key. -/
theorem bad_key {xs : List tNote.den} (F : tNote.den → tNote.den) (h : notesF xs = true) (h0 : xs ≠ []) (hF : ∀ (x : tNote.den) (k : Int), x.2.2.1 = k → 0 ≤ k ∧ k ≤ 127 → ∃ k' : Int, (F x).2.2.1 = k' ∧ ¬ (0 ≤ k' ∧ k' ≤ 127)) : makeS (xs.map F) = ([], 2) := by
  unfold makeS
  match xs, h0 with
  | x :: xs, _ =>
    have h1 : noteF x = true := notesF_get h 0 tNote.zero (by simp)
    rw [if_neg]
    intro h2
    have h3 : noteF (F x) = true := notesF_get h2 0 tNote.zero (by simp)
    obtain ⟨k', e, hk⟩ := hF x _ rfl (noteF_bd h1).2.1
    have := (noteF_bd h3).2.1
    rw [e] at this
    exact hk this
theorem map_same {xs : List tNote.den} {F G : tNote.den → tNote.den} (h : ∀ x, F x = G x) : xs.map F = xs.map G := by rw [show F = G from funext h]
theorem bnd_in {v a b : Int} (h : a ≤ v ∧ v ≤ b) (ha : -1000 ≤ a) (hb : b ≤ 1000) : bnd v = v := by unfold bnd; omega
theorem bnd_bd (v : Int) : -1000 ≤ bnd v ∧ bnd v ≤ 1000 ∧ (v < -127 → bnd v < -127) ∧ (127 < v → 127 < bnd v) ∧ (v < 0 → bnd v < 0) := by unfold bnd; omega
def ct_bounded : Ct := ctOf [.v (.int .i64)] (fun _ => .tt) (fun ((n : Int), _) => .int .i64 (bnd n))
set_option maxHeartbeats 1000000 in
theorem sat_bounded : Sat Try.prog 68 ct_bounded := by
  refine sat_typed (C := C_Sc) (L := noL) (wr := false) mixedOk Try.func68 C_Sc_ok (loops0 (by kernel_rfl)) (fun _ => by first | rfl | (simp [ownsOf, ownsOf.ownsL, enc, encV, encS])) fun x hp => ?_
  obtain ⟨(n : Int), _⟩ := x
  clear hp
  have htree : exFunc Try.prog C_Sc false noL Try.f68 (encA [.v (.int .i64)] (n, ())) = .leaf [.int .i64 (bif true then max (-1000 : Int) (bif false then max (1000 : Int) n else min (1000 : Int) n) else min (-1000 : Int) (bif false then max (1000 : Int) n else min (1000 : Int) n))] := by kernel_rfl
  refine (congrArg (Tree.ok _) htree).mpr ?_
  clear htree
  simp only [Tree.ok, tyd_inj, packAV, AV.same, AV.same.sameL, encV, encS, enc, inK, Nd.ok, List.headD_cons, List.cons_append, List.nil_append, List.append_nil, true_and, and_true, Bool.true_and, Bool.and_true, bnd]
  try trivial
def C_Sd_1 : FuncId → Option Ct := addC 68 ct_bounded C_Sc
theorem C_Sd_1_ok : COk Try.prog C_Sd_1 := addC_ok C_Sc_ok sat_bounded
def ct_cloTranspose : Ct := ctOf [.s tNote, .p I64] (fun ((x : tNote.den), (v : Int), _) => .p (noteF x = true)) (fun ((x : tNote.den), (v : Int), _) => .agg (enc tNote (trF v x)))
set_option maxHeartbeats 1000000 in
theorem sat_cloTranspose : Sat Try.prog 67 ct_cloTranspose := by
  refine sat_typed (C := C_Sd_1) (L := noL) (wr := false) mixedOk Try.func67 C_Sd_1_ok (loops0 (by kernel_rfl)) (fun _ => by first | rfl | (simp [ownsOf, ownsOf.ownsL, enc, encV, encS])) fun x hp => ?_
  obtain ⟨(x : tNote.den), (v : Int), _⟩ := x
  replace hp : noteF x = true := hp
  have htree : exFunc Try.prog C_Sd_1 false noL Try.f67 (encA [.s tNote, .p I64] (x, v, ())) = .need (inK IntKind.i64 (x.snd.snd.fst + bnd v)) (.leaf [.agg [.int .i64 (x.fst.fst), .int .i64 (x.fst.snd), .int .i64 (x.snd.fst.fst), .int .i64 (x.snd.fst.snd), .int .i64 (x.snd.snd.fst + bnd v), .int .i64 (x.snd.snd.snd.fst), .int .i64 (x.snd.snd.snd.snd)]]) := by kernel_rfl
  refine (congrArg (Tree.ok _) htree).mpr ?_
  clear htree
  have h1 := (noteF_bd hp).2.1
  have h2 := bnd_bd v
  have h3 : ∀ k : Int, 0 ≤ k ∧ k ≤ 127 → (-9223372036854775808 ≤ k + bnd v ∧ k + bnd v ≤ 9223372036854775807) := fun k hk => by omega
  have h4 : ∀ k : Int, -9223372036854775808 ≤ 2 * bnd v ∧ 2 * bnd v ≤ 9223372036854775807 := fun k => by omega
  have h3 := h3 _ h1
  simp only [Tree.ok, tyd_inj, packAV, AV.same, AV.same.sameL, encV, encS, enc, inK, Nd.ok, List.headD_cons, List.cons_append, List.nil_append, List.append_nil, true_and, and_true, Bool.true_and, Bool.and_true, trF]
  repeat' first | apply And.intro | intro _
  all_goals first | exact h3.1 | exact h3.2 | omega | trivial | rfl
def C_Sd_2 : FuncId → Option Ct := addC 67 ct_cloTranspose C_Sd_1
theorem C_Sd_2_ok : COk Try.prog C_Sd_2 := addC_ok C_Sd_1_ok sat_cloTranspose
def ann_changedTranspose_0 : LAnn := { sameS := [1, 2, 4, 5, 10, 11, 12], modS := [6, 13], sameH := [2, 4], modH := [], base := 900000, nilE := [], nilB := [], G := fun
  | ⟨[.clo 67 [.velt (.int .i64) v 0], .ptr 2 0, .ptr 4 0, .int .i64 r, .ptr 2 0, .view (.pair (.pair (.int .i64) (.int .i64)) (.pair (.pair (.int .i64) (.int .i64)) (.pair (.int .i64) (.pair (.int .i64) (.int .i64))))) xs, .int .i64 n], [.box [.view (.pair (.pair (.int .i64) (.int .i64)) (.pair (.pair (.int .i64) (.int .i64)) (.pair (.int .i64) (.pair (.int .i64) (.int .i64))))) zs], .box [.nilS]], [.own (.pair (.pair (.int .i64) (.int .i64)) (.pair (.pair (.int .i64) (.int .i64)) (.pair (.int .i64) (.pair (.int .i64) (.int .i64))))) out, .int .i64 i], []⟩ => some (.p (((0 ≤ i ∧ i ≤ n) ∧ n = (xs.length : Int) ∧ xs.length ≤ 60 ∧ (out.length : Int) = i) ∧ notesF xs = true), .leaf (.exit 0) [.own tNote (out ++ (xs.drop i.toNat).map (trF v)), .int .i64 n] [])
  | _ => none }
def ct_changedTranspose : Ct := ctOf [.s qNote, .c1 67 I64] (fun ((xs : List tNote.den), (v : Int), _) => .p (scoreF xs = true)) (fun ((xs : List tNote.den), (v : Int), _) => .tup [.agg [.own tNote (makeS (xs.map (trF v))).1], .int .i64 (makeS (xs.map (trF v))).2])
set_option maxHeartbeats 1000000 in
theorem loop_changedTranspose_0 : LoopSat Try.prog Try.f66.ntmps (loopAt Try.f66 0) ann_changedTranspose_0 := by
  refine loopSat_of (C := C_Sd_2) (L := (addL (firstId (loopAt Try.f66 0)) ann_changedTranspose_0 noL)) (wr := false) mixedOk C_Sd_2_ok (loopsIn0 (by kernel_rfl)) (fun d => match d.same, d.vals with | [_, _, _, _, _, _, .int _ n], [_, .int _ i] => (n - i).toNat | _, _ => 0) fun d p t hG hp => ?_
  simp only [ann_changedTranspose_0] at hG
  split at hG
  rotate_left
  · simp at hG
  rename_i v r xs n zs out i
  simp only [Option.some.injEq, Prod.mk.injEq] at hG
  obtain ⟨rfl, rfl⟩ := hG
  have htree : exRound Try.prog C_Sd_2 false (addL (firstId (loopAt Try.f66 0)) ann_changedTranspose_0 noL) Try.f66.ntmps ann_changedTranspose_0 (loopAt Try.f66 0) ⟨[.clo 67 [.velt I64 v 0], .ptr 2 0, .ptr 4 0, .int .i64 r, .ptr 2 0, .view tNote xs, .int .i64 n], [.box [.view tNote zs], .box [.nilS]], [.own tNote out, .int .i64 i], []⟩ = .ite (decide (i < n)) (.need ((0 : Int) ≤ i ∧ i < (↑xs.length : Int)) (.need (noteF (((getT tNote xs i).fst.fst, (getT tNote xs i).fst.snd), ((getT tNote xs i).snd.fst.fst, (getT tNote xs i).snd.fst.snd), (getT tNote xs i).snd.snd.fst, (getT tNote xs i).snd.snd.snd.fst, (getT tNote xs i).snd.snd.snd.snd) = true) (.need (out.length + [(((trF v (((getT tNote xs i).fst.fst, (getT tNote xs i).fst.snd), ((getT tNote xs i).snd.fst.fst, (getT tNote xs i).snd.fst.snd), (getT tNote xs i).snd.snd.fst, (getT tNote xs i).snd.snd.snd.fst, (getT tNote xs i).snd.snd.snd.snd)).fst.fst, (trF v (((getT tNote xs i).fst.fst, (getT tNote xs i).fst.snd), ((getT tNote xs i).snd.fst.fst, (getT tNote xs i).snd.fst.snd), (getT tNote xs i).snd.snd.fst, (getT tNote xs i).snd.snd.snd.fst, (getT tNote xs i).snd.snd.snd.snd)).fst.snd), ((trF v (((getT tNote xs i).fst.fst, (getT tNote xs i).fst.snd), ((getT tNote xs i).snd.fst.fst, (getT tNote xs i).snd.fst.snd), (getT tNote xs i).snd.snd.fst, (getT tNote xs i).snd.snd.snd.fst, (getT tNote xs i).snd.snd.snd.snd)).snd.fst.fst, (trF v (((getT tNote xs i).fst.fst, (getT tNote xs i).fst.snd), ((getT tNote xs i).snd.fst.fst, (getT tNote xs i).snd.fst.snd), (getT tNote xs i).snd.snd.fst, (getT tNote xs i).snd.snd.snd.fst, (getT tNote xs i).snd.snd.snd.snd)).snd.fst.snd), (trF v (((getT tNote xs i).fst.fst, (getT tNote xs i).fst.snd), ((getT tNote xs i).snd.fst.fst, (getT tNote xs i).snd.fst.snd), (getT tNote xs i).snd.snd.fst, (getT tNote xs i).snd.snd.snd.fst, (getT tNote xs i).snd.snd.snd.snd)).snd.snd.fst, (trF v (((getT tNote xs i).fst.fst, (getT tNote xs i).fst.snd), ((getT tNote xs i).snd.fst.fst, (getT tNote xs i).snd.fst.snd), (getT tNote xs i).snd.snd.fst, (getT tNote xs i).snd.snd.snd.fst, (getT tNote xs i).snd.snd.snd.snd)).snd.snd.snd.fst, (trF v (((getT tNote xs i).fst.fst, (getT tNote xs i).fst.snd), ((getT tNote xs i).snd.fst.fst, (getT tNote xs i).snd.fst.snd), (getT tNote xs i).snd.snd.fst, (getT tNote xs i).snd.snd.snd.fst, (getT tNote xs i).snd.snd.snd.snd)).snd.snd.snd.snd)].length ≤ (16777216 : Nat)) (.need (inK IntKind.i64 (i + (1 : Int))) (.leaf (.normal, ⟨[.clo 67 [.velt (Ty.int IntKind.i64) (v) ((0 : Nat))], .ptr 2 0, .ptr 4 0, .int .i64 (r), .ptr 2 0, .view (tFrac.pair (tFrac.pair (I64.pair (I64.pair I64)))) (xs), .int .i64 (n)], [.box [.view (tFrac.pair (tFrac.pair (I64.pair (I64.pair I64)))) (zs)], .box [.nilS]], [.own (tFrac.pair (tFrac.pair (I64.pair (I64.pair I64)))) (out ++ [(((trF v (((getT tNote xs i).fst.fst, (getT tNote xs i).fst.snd), ((getT tNote xs i).snd.fst.fst, (getT tNote xs i).snd.fst.snd), (getT tNote xs i).snd.snd.fst, (getT tNote xs i).snd.snd.snd.fst, (getT tNote xs i).snd.snd.snd.snd)).fst.fst, (trF v (((getT tNote xs i).fst.fst, (getT tNote xs i).fst.snd), ((getT tNote xs i).snd.fst.fst, (getT tNote xs i).snd.fst.snd), (getT tNote xs i).snd.snd.fst, (getT tNote xs i).snd.snd.snd.fst, (getT tNote xs i).snd.snd.snd.snd)).fst.snd), ((trF v (((getT tNote xs i).fst.fst, (getT tNote xs i).fst.snd), ((getT tNote xs i).snd.fst.fst, (getT tNote xs i).snd.fst.snd), (getT tNote xs i).snd.snd.fst, (getT tNote xs i).snd.snd.snd.fst, (getT tNote xs i).snd.snd.snd.snd)).snd.fst.fst, (trF v (((getT tNote xs i).fst.fst, (getT tNote xs i).fst.snd), ((getT tNote xs i).snd.fst.fst, (getT tNote xs i).snd.fst.snd), (getT tNote xs i).snd.snd.fst, (getT tNote xs i).snd.snd.snd.fst, (getT tNote xs i).snd.snd.snd.snd)).snd.fst.snd), (trF v (((getT tNote xs i).fst.fst, (getT tNote xs i).fst.snd), ((getT tNote xs i).snd.fst.fst, (getT tNote xs i).snd.fst.snd), (getT tNote xs i).snd.snd.fst, (getT tNote xs i).snd.snd.snd.fst, (getT tNote xs i).snd.snd.snd.snd)).snd.snd.fst, (trF v (((getT tNote xs i).fst.fst, (getT tNote xs i).fst.snd), ((getT tNote xs i).snd.fst.fst, (getT tNote xs i).snd.fst.snd), (getT tNote xs i).snd.snd.fst, (getT tNote xs i).snd.snd.snd.fst, (getT tNote xs i).snd.snd.snd.snd)).snd.snd.snd.fst, (trF v (((getT tNote xs i).fst.fst, (getT tNote xs i).fst.snd), ((getT tNote xs i).snd.fst.fst, (getT tNote xs i).snd.fst.snd), (getT tNote xs i).snd.snd.fst, (getT tNote xs i).snd.snd.snd.fst, (getT tNote xs i).snd.snd.snd.snd)).snd.snd.snd.snd)]), .int .i64 (i + (1 : Int))], []⟩)))))) (.leaf ((.exit 0), ⟨[.clo 67 [.velt (Ty.int IntKind.i64) (v) ((0 : Nat))], .ptr 2 0, .ptr 4 0, .int .i64 (r), .ptr 2 0, .view (tFrac.pair (tFrac.pair (I64.pair (I64.pair I64)))) (xs), .int .i64 (n)], [.box [.view (tFrac.pair (tFrac.pair (I64.pair (I64.pair I64)))) (zs)], .box [.nilS]], [.own (tFrac.pair (tFrac.pair (I64.pair (I64.pair I64)))) (out), .int .i64 (i)], []⟩)) := by kernel_rfl
  rw [htree]
  clear htree
  replace hp : ((0 ≤ i ∧ i ≤ n) ∧ n = (xs.length : Int) ∧ xs.length ≤ 60 ∧ (out.length : Int) = i) ∧ notesF xs = true := hp
  simp only [Tree.ok, tyd_inj, packAV, AV.same, AV.same.sameL, encV, encS, enc, inK, Nd.ok, List.headD_cons, List.cons_append, List.nil_append, List.append_nil, true_and, and_true, Bool.true_and, Bool.and_true, loop_next, weakBs_nil, weakBs_cons, weakB_self, weakB_row, weakB_int, weakL_nil, weakL_unk, weakL_guess, isRow_own, isRow_unk, weakL_int, weakL_bool, weakL_str, weakL_own, weakL_view, weakL_nilS, noRow_int, noRow_bool, own_inj, LTree.val, cond_true, cond_false, Prod.mk.injEq, List.cons.injEq, AV.int.injEq, AV.bool.injEq, AV.str.injEq, AV.agg.injEq, ann_changedTranspose_0, decide_eq_true_eq, decide_eq_false_iff_not, getT, etaN]
  refine ⟨fun ha => ?_, fun ha => ?_⟩
  · have h1 := map_step (trF v) xs i.toNat tNote.zero (by omega)
    have g1 := notesF_get hp.2 i.toNat tNote.zero (by omega)
    rw [show (i + 1).toNat = i.toNat + 1 by omega, h1]
    simp only [List.length_append, List.length_cons, List.length_nil, List.append_assoc, List.cons_append, List.nil_append]
    repeat' first | apply And.intro | intro _
    all_goals first | omega | assumption | exact hp.2.1 | exact hp.2.2 | exact hp.2 | trivial | rfl
  · rw [show i.toNat = xs.length by omega, List.drop_length]
    simp [Tree.ok, tyd_inj, packAV, AV.same, AV.same.sameL, encV, encS, enc, inK, Nd.ok, List.headD_cons, List.cons_append, List.nil_append, List.append_nil, true_and, and_true, Bool.true_and, Bool.and_true, loop_next, weakBs_nil, weakBs_cons, weakB_self, weakB_row, weakB_int, weakL_nil, weakL_unk, weakL_guess, isRow_own, isRow_unk, weakL_int, weakL_bool, weakL_str, weakL_own, weakL_view, weakL_nilS, noRow_int, noRow_bool, own_inj, LTree.val, cond_true, cond_false, Prod.mk.injEq, List.cons.injEq, AV.int.injEq, AV.bool.injEq, AV.str.injEq, AV.agg.injEq]
    omega
theorem loops_changedTranspose : ∀ c, Try.f66.body = some c → LoopsOk Try.prog (addL (firstId (loopAt Try.f66 0)) ann_changedTranspose_0 noL) Try.f66.ntmps c := loopsN fun i hi ann h => by
  have hn : loopN Try.f66 = 1 := by kernel_rfl
  rw [hn] at hi
  exact match i, hi, h with
    | 0, _, h => (Option.some.inj ((show (addL (firstId (loopAt Try.f66 0)) ann_changedTranspose_0 noL) (firstId (loopAt Try.f66 0)) = some ann_changedTranspose_0 from by kernel_rfl).symm.trans h)) ▸ loop_changedTranspose_0
set_option maxHeartbeats 1000000 in
theorem sat_changedTranspose : Sat Try.prog 66 ct_changedTranspose := by
  refine sat_typed (C := C_Sd_2) (L := (addL (firstId (loopAt Try.f66 0)) ann_changedTranspose_0 noL)) (wr := false) mixedOk Try.func66 C_Sd_2_ok (loops_changedTranspose) (fun _ => by first | rfl | (simp [ownsOf, ownsOf.ownsL, enc, encV, encS])) fun x hp => ?_
  obtain ⟨(xs : List tNote.den), (v : Int), _⟩ := x
  replace hp : scoreF xs = true := hp
  have htree : exFunc Try.prog C_Sd_2 false (addL (firstId (loopAt Try.f66 0)) ann_changedTranspose_0 noL) Try.f66 (encA [.s qNote, .c1 67 I64] (xs, v, ())) = .need ((((0 : Int) ≤ (0 : Int) ∧ (0 : Int) ≤ (↑xs.length : Int)) ∧ (↑xs.length : Int) = (↑xs.length : Int) ∧ xs.length ≤ (60 : Nat) ∧ (↑(0 : Nat) : Int) = (0 : Int)) ∧ notesF xs = true) (.need ((↑([] ++ List.map (trF v) (List.drop (Int.toNat (0 : Int)) xs)).length : Int) ≤ (9223372036854775807 : Int)) (.ite (!notesF ([] ++ List.map (trF v) (List.drop (Int.toNat (0 : Int)) xs))) (.leaf [.agg [.nilS], .int .i64 ((2 : Int))]) (.need (([] ++ List.map (trF v) (List.drop (Int.toNat (0 : Int)) xs)).length ≤ (1000 : Nat) ∧ AllOk goodN ([] ++ List.map (trF v) (List.drop (Int.toNat (0 : Int)) xs))) (.need ((srt ltN ([] ++ List.map (trF v) (List.drop (Int.toNat (0 : Int)) xs))).length ≤ (1000 : Nat) ∧ AllOk goodN (srt ltN ([] ++ List.map (trF v) (List.drop (Int.toNat (0 : Int)) xs)))) (.ite (twinB (srt ltN ([] ++ List.map (trF v) (List.drop (Int.toNat (0 : Int)) xs)))) (.leaf [.agg [.nilS], .int .i64 ((4 : Int))]) (.leaf [.agg [.own (tFrac.pair (tFrac.pair (I64.pair (I64.pair I64)))) (srt ltN ([] ++ List.map (trF v) (List.drop (Int.toNat (0 : Int)) xs)))], .int .i64 ((0 : Int))])))))) := by kernel_rfl
  refine (congrArg (Tree.ok _) htree).mpr ?_
  clear htree
  have hs := scoreN hp
  have hk := @notesOk (xs.map (trF v))
  have hl : (xs.map (trF v)).length = xs.length := List.length_map _
  simp only [Tree.ok, tyd_inj, packAV, AV.same, AV.same.sameL, encV, encS, enc, inK, Nd.ok, List.headD_cons, List.cons_append, List.nil_append, List.append_nil, true_and, and_true, Bool.true_and, Bool.and_true, makeS, Int.toNat_zero, List.drop_zero, List.nil_append, srt_len]
  generalize xs.map (trF v) = ys at *
  cases h2 : notesF ys
  · simp
    repeat' first | apply And.intro | intro _
    all_goals first | omega | exact hs.1 | exact hs.2 | exact hp.2 | trivial | assumption
  · have hk := hk h2
    cases h3 : twinB (srt ltN ys)
    all_goals
      simp only [if_true, Bool.not_true, Bool.false_eq_true, if_false]
      repeat' first | apply And.intro | intro _
      all_goals first | omega | exact hk _ ‹_› | exact hk.srt _ ‹_› | exact hs.1 | exact hs.2 | exact hp.2 | trivial | assumption | contradiction | rfl | (simp at *; done)
def C_Sd_3 : FuncId → Option Ct := addC 66 ct_changedTranspose C_Sd_2
theorem C_Sd_3_ok : COk Try.prog C_Sd_3 := addC_ok C_Sd_2_ok sat_changedTranspose
def ct_iTranspose : Ct := ctOf [.s qNote, .v (.int .i64)] (fun ((xs : List tNote.den), (v : Int), _) => .p ((xs.length : Int) ≤ 9223372036854775807)) (fun ((xs : List tNote.den), (v : Int), _) => .tup [.agg [.own tNote (keyS true (trF v) xs).1], .int .i64 (keyS true (trF v) xs).2])
set_option maxHeartbeats 1000000 in
theorem sat_iTranspose : Sat Try.prog 16 ct_iTranspose := by
  refine sat_typed (C := C_Sd_3) (L := noL) (wr := false) mixedOk Try.func16 C_Sd_3_ok (loops0 (by kernel_rfl)) (fun _ => by first | rfl | (simp [ownsOf, ownsOf.ownsL, enc, encV, encS])) fun x hp => ?_
  obtain ⟨(xs : List tNote.den), (v : Int), _⟩ := x
  replace hp : (xs.length : Int) ≤ 9223372036854775807 := hp
  have htree : exFunc Try.prog C_Sd_3 false noL Try.f16 (encA [.s qNote, .v (.int .i64)] (xs, v, ())) = .need ((↑xs.length : Int) ≤ (9223372036854775807 : Int)) (.ite (!scoreF xs) (.leaf [.agg [.nilS], .int .i64 ((1 : Int))]) (.need (scoreF xs = true) (.leaf [.agg [.own (tFrac.pair (tFrac.pair (I64.pair (I64.pair I64)))) ((makeS (List.map (trF v) xs)).fst)], .int .i64 ((makeS (List.map (trF v) xs)).snd)]))) := by kernel_rfl
  refine (congrArg (Tree.ok _) htree).mpr ?_
  clear htree
  simp only [Tree.ok, tyd_inj, packAV, AV.same, AV.same.sameL, encV, encS, enc, inK, Nd.ok, List.headD_cons, List.cons_append, List.nil_append, List.append_nil, true_and, and_true, Bool.true_and, Bool.and_true, keyS]
  cases hs : scoreF xs <;> simp <;> omega
def C_Sd_4 : FuncId → Option Ct := addC 16 ct_iTranspose C_Sd_3
theorem C_Sd_4_ok : COk Try.prog C_Sd_4 := addC_ok C_Sd_3_ok sat_iTranspose
def ct_cloInvert : Ct := ctOf [.s tNote, .p I64] (fun ((x : tNote.den), (v : Int), _) => .p (noteF x = true)) (fun ((x : tNote.den), (v : Int), _) => .agg (enc tNote (inF v x)))
set_option maxHeartbeats 1000000 in
theorem sat_cloInvert : Sat Try.prog 69 ct_cloInvert := by
  refine sat_typed (C := C_Sd_4) (L := noL) (wr := false) mixedOk Try.func69 C_Sd_4_ok (loops0 (by kernel_rfl)) (fun _ => by first | rfl | (simp [ownsOf, ownsOf.ownsL, enc, encV, encS])) fun x hp => ?_
  obtain ⟨(x : tNote.den), (v : Int), _⟩ := x
  replace hp : noteF x = true := hp
  have htree : exFunc Try.prog C_Sd_4 false noL Try.f69 (encA [.s tNote, .p I64] (x, v, ())) = .need (inK IntKind.i64 ((2 : Int) * bnd v)) (.need (inK IntKind.i64 ((2 : Int) * bnd v - x.snd.snd.fst)) (.leaf [.agg [.int .i64 (x.fst.fst), .int .i64 (x.fst.snd), .int .i64 (x.snd.fst.fst), .int .i64 (x.snd.fst.snd), .int .i64 ((2 : Int) * bnd v - x.snd.snd.fst), .int .i64 (x.snd.snd.snd.fst), .int .i64 (x.snd.snd.snd.snd)]])) := by kernel_rfl
  refine (congrArg (Tree.ok _) htree).mpr ?_
  clear htree
  have h1 := (noteF_bd hp).2.1
  have h2 := bnd_bd v
  have h3 : ∀ k : Int, 0 ≤ k ∧ k ≤ 127 → (-9223372036854775808 ≤ 2 * bnd v - k ∧ 2 * bnd v - k ≤ 9223372036854775807) := fun k hk => by omega
  have h4 : ∀ k : Int, -9223372036854775808 ≤ 2 * bnd v ∧ 2 * bnd v ≤ 9223372036854775807 := fun k => by omega
  have h3 := h3 _ h1
  simp only [Tree.ok, tyd_inj, packAV, AV.same, AV.same.sameL, encV, encS, enc, inK, Nd.ok, List.headD_cons, List.cons_append, List.nil_append, List.append_nil, true_and, and_true, Bool.true_and, Bool.and_true, inF]
  repeat' first | apply And.intro | intro _
  all_goals first | exact h3.1 | exact h3.2 | omega | trivial | rfl
def C_Sd_5 : FuncId → Option Ct := addC 69 ct_cloInvert C_Sd_4
theorem C_Sd_5_ok : COk Try.prog C_Sd_5 := addC_ok C_Sd_4_ok sat_cloInvert
def ann_changedInvert_0 : LAnn := { sameS := [1, 2, 4, 5, 10, 11, 12], modS := [6, 13], sameH := [2, 4], modH := [], base := 900000, nilE := [], nilB := [], G := fun
  | ⟨[.clo 69 [.velt (.int .i64) v 0], .ptr 2 0, .ptr 4 0, .int .i64 r, .ptr 2 0, .view (.pair (.pair (.int .i64) (.int .i64)) (.pair (.pair (.int .i64) (.int .i64)) (.pair (.int .i64) (.pair (.int .i64) (.int .i64))))) xs, .int .i64 n], [.box [.view (.pair (.pair (.int .i64) (.int .i64)) (.pair (.pair (.int .i64) (.int .i64)) (.pair (.int .i64) (.pair (.int .i64) (.int .i64))))) zs], .box [.nilS]], [.own (.pair (.pair (.int .i64) (.int .i64)) (.pair (.pair (.int .i64) (.int .i64)) (.pair (.int .i64) (.pair (.int .i64) (.int .i64))))) out, .int .i64 i], []⟩ => some (.p (((0 ≤ i ∧ i ≤ n) ∧ n = (xs.length : Int) ∧ xs.length ≤ 60 ∧ (out.length : Int) = i) ∧ notesF xs = true), .leaf (.exit 0) [.own tNote (out ++ (xs.drop i.toNat).map (inF v)), .int .i64 n] [])
  | _ => none }
def ct_changedInvert : Ct := ctOf [.s qNote, .c1 69 I64] (fun ((xs : List tNote.den), (v : Int), _) => .p (scoreF xs = true)) (fun ((xs : List tNote.den), (v : Int), _) => .tup [.agg [.own tNote (makeS (xs.map (inF v))).1], .int .i64 (makeS (xs.map (inF v))).2])
set_option maxHeartbeats 1000000 in
theorem loop_changedInvert_0 : LoopSat Try.prog Try.f66.ntmps (loopAt Try.f66 0) ann_changedInvert_0 := by
  refine loopSat_of (C := C_Sd_5) (L := (addL (firstId (loopAt Try.f66 0)) ann_changedInvert_0 noL)) (wr := false) mixedOk C_Sd_5_ok (loopsIn0 (by kernel_rfl)) (fun d => match d.same, d.vals with | [_, _, _, _, _, _, .int _ n], [_, .int _ i] => (n - i).toNat | _, _ => 0) fun d p t hG hp => ?_
  simp only [ann_changedInvert_0] at hG
  split at hG
  rotate_left
  · simp at hG
  rename_i v r xs n zs out i
  simp only [Option.some.injEq, Prod.mk.injEq] at hG
  obtain ⟨rfl, rfl⟩ := hG
  have htree : exRound Try.prog C_Sd_5 false (addL (firstId (loopAt Try.f66 0)) ann_changedInvert_0 noL) Try.f66.ntmps ann_changedInvert_0 (loopAt Try.f66 0) ⟨[.clo 69 [.velt I64 v 0], .ptr 2 0, .ptr 4 0, .int .i64 r, .ptr 2 0, .view tNote xs, .int .i64 n], [.box [.view tNote zs], .box [.nilS]], [.own tNote out, .int .i64 i], []⟩ = .ite (decide (i < n)) (.need ((0 : Int) ≤ i ∧ i < (↑xs.length : Int)) (.need (noteF (((getT tNote xs i).fst.fst, (getT tNote xs i).fst.snd), ((getT tNote xs i).snd.fst.fst, (getT tNote xs i).snd.fst.snd), (getT tNote xs i).snd.snd.fst, (getT tNote xs i).snd.snd.snd.fst, (getT tNote xs i).snd.snd.snd.snd) = true) (.need (out.length + [(((inF v (((getT tNote xs i).fst.fst, (getT tNote xs i).fst.snd), ((getT tNote xs i).snd.fst.fst, (getT tNote xs i).snd.fst.snd), (getT tNote xs i).snd.snd.fst, (getT tNote xs i).snd.snd.snd.fst, (getT tNote xs i).snd.snd.snd.snd)).fst.fst, (inF v (((getT tNote xs i).fst.fst, (getT tNote xs i).fst.snd), ((getT tNote xs i).snd.fst.fst, (getT tNote xs i).snd.fst.snd), (getT tNote xs i).snd.snd.fst, (getT tNote xs i).snd.snd.snd.fst, (getT tNote xs i).snd.snd.snd.snd)).fst.snd), ((inF v (((getT tNote xs i).fst.fst, (getT tNote xs i).fst.snd), ((getT tNote xs i).snd.fst.fst, (getT tNote xs i).snd.fst.snd), (getT tNote xs i).snd.snd.fst, (getT tNote xs i).snd.snd.snd.fst, (getT tNote xs i).snd.snd.snd.snd)).snd.fst.fst, (inF v (((getT tNote xs i).fst.fst, (getT tNote xs i).fst.snd), ((getT tNote xs i).snd.fst.fst, (getT tNote xs i).snd.fst.snd), (getT tNote xs i).snd.snd.fst, (getT tNote xs i).snd.snd.snd.fst, (getT tNote xs i).snd.snd.snd.snd)).snd.fst.snd), (inF v (((getT tNote xs i).fst.fst, (getT tNote xs i).fst.snd), ((getT tNote xs i).snd.fst.fst, (getT tNote xs i).snd.fst.snd), (getT tNote xs i).snd.snd.fst, (getT tNote xs i).snd.snd.snd.fst, (getT tNote xs i).snd.snd.snd.snd)).snd.snd.fst, (inF v (((getT tNote xs i).fst.fst, (getT tNote xs i).fst.snd), ((getT tNote xs i).snd.fst.fst, (getT tNote xs i).snd.fst.snd), (getT tNote xs i).snd.snd.fst, (getT tNote xs i).snd.snd.snd.fst, (getT tNote xs i).snd.snd.snd.snd)).snd.snd.snd.fst, (inF v (((getT tNote xs i).fst.fst, (getT tNote xs i).fst.snd), ((getT tNote xs i).snd.fst.fst, (getT tNote xs i).snd.fst.snd), (getT tNote xs i).snd.snd.fst, (getT tNote xs i).snd.snd.snd.fst, (getT tNote xs i).snd.snd.snd.snd)).snd.snd.snd.snd)].length ≤ (16777216 : Nat)) (.need (inK IntKind.i64 (i + (1 : Int))) (.leaf (.normal, ⟨[.clo 69 [.velt (Ty.int IntKind.i64) (v) ((0 : Nat))], .ptr 2 0, .ptr 4 0, .int .i64 (r), .ptr 2 0, .view (tFrac.pair (tFrac.pair (I64.pair (I64.pair I64)))) (xs), .int .i64 (n)], [.box [.view (tFrac.pair (tFrac.pair (I64.pair (I64.pair I64)))) (zs)], .box [.nilS]], [.own (tFrac.pair (tFrac.pair (I64.pair (I64.pair I64)))) (out ++ [(((inF v (((getT tNote xs i).fst.fst, (getT tNote xs i).fst.snd), ((getT tNote xs i).snd.fst.fst, (getT tNote xs i).snd.fst.snd), (getT tNote xs i).snd.snd.fst, (getT tNote xs i).snd.snd.snd.fst, (getT tNote xs i).snd.snd.snd.snd)).fst.fst, (inF v (((getT tNote xs i).fst.fst, (getT tNote xs i).fst.snd), ((getT tNote xs i).snd.fst.fst, (getT tNote xs i).snd.fst.snd), (getT tNote xs i).snd.snd.fst, (getT tNote xs i).snd.snd.snd.fst, (getT tNote xs i).snd.snd.snd.snd)).fst.snd), ((inF v (((getT tNote xs i).fst.fst, (getT tNote xs i).fst.snd), ((getT tNote xs i).snd.fst.fst, (getT tNote xs i).snd.fst.snd), (getT tNote xs i).snd.snd.fst, (getT tNote xs i).snd.snd.snd.fst, (getT tNote xs i).snd.snd.snd.snd)).snd.fst.fst, (inF v (((getT tNote xs i).fst.fst, (getT tNote xs i).fst.snd), ((getT tNote xs i).snd.fst.fst, (getT tNote xs i).snd.fst.snd), (getT tNote xs i).snd.snd.fst, (getT tNote xs i).snd.snd.snd.fst, (getT tNote xs i).snd.snd.snd.snd)).snd.fst.snd), (inF v (((getT tNote xs i).fst.fst, (getT tNote xs i).fst.snd), ((getT tNote xs i).snd.fst.fst, (getT tNote xs i).snd.fst.snd), (getT tNote xs i).snd.snd.fst, (getT tNote xs i).snd.snd.snd.fst, (getT tNote xs i).snd.snd.snd.snd)).snd.snd.fst, (inF v (((getT tNote xs i).fst.fst, (getT tNote xs i).fst.snd), ((getT tNote xs i).snd.fst.fst, (getT tNote xs i).snd.fst.snd), (getT tNote xs i).snd.snd.fst, (getT tNote xs i).snd.snd.snd.fst, (getT tNote xs i).snd.snd.snd.snd)).snd.snd.snd.fst, (inF v (((getT tNote xs i).fst.fst, (getT tNote xs i).fst.snd), ((getT tNote xs i).snd.fst.fst, (getT tNote xs i).snd.fst.snd), (getT tNote xs i).snd.snd.fst, (getT tNote xs i).snd.snd.snd.fst, (getT tNote xs i).snd.snd.snd.snd)).snd.snd.snd.snd)]), .int .i64 (i + (1 : Int))], []⟩)))))) (.leaf ((.exit 0), ⟨[.clo 69 [.velt (Ty.int IntKind.i64) (v) ((0 : Nat))], .ptr 2 0, .ptr 4 0, .int .i64 (r), .ptr 2 0, .view (tFrac.pair (tFrac.pair (I64.pair (I64.pair I64)))) (xs), .int .i64 (n)], [.box [.view (tFrac.pair (tFrac.pair (I64.pair (I64.pair I64)))) (zs)], .box [.nilS]], [.own (tFrac.pair (tFrac.pair (I64.pair (I64.pair I64)))) (out), .int .i64 (i)], []⟩)) := by kernel_rfl
  rw [htree]
  clear htree
  replace hp : ((0 ≤ i ∧ i ≤ n) ∧ n = (xs.length : Int) ∧ xs.length ≤ 60 ∧ (out.length : Int) = i) ∧ notesF xs = true := hp
  simp only [Tree.ok, tyd_inj, packAV, AV.same, AV.same.sameL, encV, encS, enc, inK, Nd.ok, List.headD_cons, List.cons_append, List.nil_append, List.append_nil, true_and, and_true, Bool.true_and, Bool.and_true, loop_next, weakBs_nil, weakBs_cons, weakB_self, weakB_row, weakB_int, weakL_nil, weakL_unk, weakL_guess, isRow_own, isRow_unk, weakL_int, weakL_bool, weakL_str, weakL_own, weakL_view, weakL_nilS, noRow_int, noRow_bool, own_inj, LTree.val, cond_true, cond_false, Prod.mk.injEq, List.cons.injEq, AV.int.injEq, AV.bool.injEq, AV.str.injEq, AV.agg.injEq, ann_changedInvert_0, decide_eq_true_eq, decide_eq_false_iff_not, getT, etaN]
  refine ⟨fun ha => ?_, fun ha => ?_⟩
  · have h1 := map_step (inF v) xs i.toNat tNote.zero (by omega)
    have g1 := notesF_get hp.2 i.toNat tNote.zero (by omega)
    rw [show (i + 1).toNat = i.toNat + 1 by omega, h1]
    simp only [List.length_append, List.length_cons, List.length_nil, List.append_assoc, List.cons_append, List.nil_append]
    repeat' first | apply And.intro | intro _
    all_goals first | omega | assumption | exact hp.2.1 | exact hp.2.2 | exact hp.2 | trivial | rfl
  · rw [show i.toNat = xs.length by omega, List.drop_length]
    simp [Tree.ok, tyd_inj, packAV, AV.same, AV.same.sameL, encV, encS, enc, inK, Nd.ok, List.headD_cons, List.cons_append, List.nil_append, List.append_nil, true_and, and_true, Bool.true_and, Bool.and_true, loop_next, weakBs_nil, weakBs_cons, weakB_self, weakB_row, weakB_int, weakL_nil, weakL_unk, weakL_guess, isRow_own, isRow_unk, weakL_int, weakL_bool, weakL_str, weakL_own, weakL_view, weakL_nilS, noRow_int, noRow_bool, own_inj, LTree.val, cond_true, cond_false, Prod.mk.injEq, List.cons.injEq, AV.int.injEq, AV.bool.injEq, AV.str.injEq, AV.agg.injEq]
    omega
theorem loops_changedInvert : ∀ c, Try.f66.body = some c → LoopsOk Try.prog (addL (firstId (loopAt Try.f66 0)) ann_changedInvert_0 noL) Try.f66.ntmps c := loopsN fun i hi ann h => by
  have hn : loopN Try.f66 = 1 := by kernel_rfl
  rw [hn] at hi
  exact match i, hi, h with
    | 0, _, h => (Option.some.inj ((show (addL (firstId (loopAt Try.f66 0)) ann_changedInvert_0 noL) (firstId (loopAt Try.f66 0)) = some ann_changedInvert_0 from by kernel_rfl).symm.trans h)) ▸ loop_changedInvert_0
set_option maxHeartbeats 1000000 in
theorem sat_changedInvert : Sat Try.prog 66 ct_changedInvert := by
  refine sat_typed (C := C_Sd_5) (L := (addL (firstId (loopAt Try.f66 0)) ann_changedInvert_0 noL)) (wr := false) mixedOk Try.func66 C_Sd_5_ok (loops_changedInvert) (fun _ => by first | rfl | (simp [ownsOf, ownsOf.ownsL, enc, encV, encS])) fun x hp => ?_
  obtain ⟨(xs : List tNote.den), (v : Int), _⟩ := x
  replace hp : scoreF xs = true := hp
  have htree : exFunc Try.prog C_Sd_5 false (addL (firstId (loopAt Try.f66 0)) ann_changedInvert_0 noL) Try.f66 (encA [.s qNote, .c1 69 I64] (xs, v, ())) = .need ((((0 : Int) ≤ (0 : Int) ∧ (0 : Int) ≤ (↑xs.length : Int)) ∧ (↑xs.length : Int) = (↑xs.length : Int) ∧ xs.length ≤ (60 : Nat) ∧ (↑(0 : Nat) : Int) = (0 : Int)) ∧ notesF xs = true) (.need ((↑([] ++ List.map (inF v) (List.drop (Int.toNat (0 : Int)) xs)).length : Int) ≤ (9223372036854775807 : Int)) (.ite (!notesF ([] ++ List.map (inF v) (List.drop (Int.toNat (0 : Int)) xs))) (.leaf [.agg [.nilS], .int .i64 ((2 : Int))]) (.need (([] ++ List.map (inF v) (List.drop (Int.toNat (0 : Int)) xs)).length ≤ (1000 : Nat) ∧ AllOk goodN ([] ++ List.map (inF v) (List.drop (Int.toNat (0 : Int)) xs))) (.need ((srt ltN ([] ++ List.map (inF v) (List.drop (Int.toNat (0 : Int)) xs))).length ≤ (1000 : Nat) ∧ AllOk goodN (srt ltN ([] ++ List.map (inF v) (List.drop (Int.toNat (0 : Int)) xs)))) (.ite (twinB (srt ltN ([] ++ List.map (inF v) (List.drop (Int.toNat (0 : Int)) xs)))) (.leaf [.agg [.nilS], .int .i64 ((4 : Int))]) (.leaf [.agg [.own (tFrac.pair (tFrac.pair (I64.pair (I64.pair I64)))) (srt ltN ([] ++ List.map (inF v) (List.drop (Int.toNat (0 : Int)) xs)))], .int .i64 ((0 : Int))])))))) := by kernel_rfl
  refine (congrArg (Tree.ok _) htree).mpr ?_
  clear htree
  have hs := scoreN hp
  have hk := @notesOk (xs.map (inF v))
  have hl : (xs.map (inF v)).length = xs.length := List.length_map _
  simp only [Tree.ok, tyd_inj, packAV, AV.same, AV.same.sameL, encV, encS, enc, inK, Nd.ok, List.headD_cons, List.cons_append, List.nil_append, List.append_nil, true_and, and_true, Bool.true_and, Bool.and_true, makeS, Int.toNat_zero, List.drop_zero, List.nil_append, srt_len]
  generalize xs.map (inF v) = ys at *
  cases h2 : notesF ys
  · simp
    repeat' first | apply And.intro | intro _
    all_goals first | omega | exact hs.1 | exact hs.2 | exact hp.2 | trivial | assumption
  · have hk := hk h2
    cases h3 : twinB (srt ltN ys)
    all_goals
      simp only [if_true, Bool.not_true, Bool.false_eq_true, if_false]
      repeat' first | apply And.intro | intro _
      all_goals first | omega | exact hk _ ‹_› | exact hk.srt _ ‹_› | exact hs.1 | exact hs.2 | exact hp.2 | trivial | assumption | contradiction | rfl | (simp at *; done)
def C_Sd_6 : FuncId → Option Ct := addC 66 ct_changedInvert C_Sd_5
theorem C_Sd_6_ok : COk Try.prog C_Sd_6 := addC_ok C_Sd_5_ok sat_changedInvert
def ct_iInvert : Ct := ctOf [.s qNote, .v (.int .i64)] (fun ((xs : List tNote.den), (v : Int), _) => .p ((xs.length : Int) ≤ 9223372036854775807)) (fun ((xs : List tNote.den), (v : Int), _) => .tup [.agg [.own tNote (keyS true (inF v) xs).1], .int .i64 (keyS true (inF v) xs).2])
set_option maxHeartbeats 1000000 in
theorem sat_iInvert : Sat Try.prog 18 ct_iInvert := by
  refine sat_typed (C := C_Sd_6) (L := noL) (wr := false) mixedOk Try.func18 C_Sd_6_ok (loops0 (by kernel_rfl)) (fun _ => by first | rfl | (simp [ownsOf, ownsOf.ownsL, enc, encV, encS])) fun x hp => ?_
  obtain ⟨(xs : List tNote.den), (v : Int), _⟩ := x
  replace hp : (xs.length : Int) ≤ 9223372036854775807 := hp
  have htree : exFunc Try.prog C_Sd_6 false noL Try.f18 (encA [.s qNote, .v (.int .i64)] (xs, v, ())) = .need ((↑xs.length : Int) ≤ (9223372036854775807 : Int)) (.ite (!scoreF xs) (.leaf [.agg [.nilS], .int .i64 ((1 : Int))]) (.need (scoreF xs = true) (.leaf [.agg [.own (tFrac.pair (tFrac.pair (I64.pair (I64.pair I64)))) ((makeS (List.map (inF v) xs)).fst)], .int .i64 ((makeS (List.map (inF v) xs)).snd)]))) := by kernel_rfl
  refine (congrArg (Tree.ok _) htree).mpr ?_
  clear htree
  simp only [Tree.ok, tyd_inj, packAV, AV.same, AV.same.sameL, encV, encS, enc, inK, Nd.ok, List.headD_cons, List.cons_append, List.nil_append, List.append_nil, true_and, and_true, Bool.true_and, Bool.and_true, keyS]
  cases hs : scoreF xs <;> simp <;> omega
def C_Sd_7 : FuncId → Option Ct := addC 18 ct_iInvert C_Sd_6
theorem C_Sd_7_ok : COk Try.prog C_Sd_7 := addC_ok C_Sd_6_ok sat_iInvert

def C_Sd : FuncId → Option Ct := C_Sd_7
theorem C_Sd_ok : COk Try.prog C_Sd := C_Sd_7_ok
end Go.Proofs.Ytjgjcggecikdpaa
