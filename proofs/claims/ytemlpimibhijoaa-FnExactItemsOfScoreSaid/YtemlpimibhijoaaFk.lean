/- Contracts: rows that are marked, and looked at again; copies of rows. Conditions: as each says. -/
import Derived.Test.YtemlpimibhijoaaFj
set_option linter.unusedSimpArgs false
set_option linter.unusedVariables false
namespace Go.Proofs.Ytemlpimibhijoaa
open Go.RowKit Sx
set_option maxRecDepth 100000
set_option maxHeartbeats 1000000
def rowMark {α : Type} (f : Int → α) (s : Int) : Nat → Int → List α
  | 0, _ => []
  | n + 1, k => f k :: rowMark f s n (k + s)
theorem rowMark_length {α : Type} (f : Int → α) (s : Int) : ∀ (n : Nat) (k : Int), (rowMark f s n k).length = n
  | 0, _ => rfl
  | n + 1, k => by simp [rowMark, rowMark_length f s n]
theorem getD_set_self {α : Type} (l : List α) (i : Nat) (a z : α) (h : i < l.length) : (l.set i a).getD i z = a := by
  simp [List.getD, h]
theorem rowMark_step {α : Type} (f : Int → α) (s : Int) (xs : List α) (i : Nat) (k : Int) (h : i < xs.length) : (xs.set i (f k)).take (i + 1) ++ rowMark f s (xs.length - (i + 1)) (k + s) = xs.take i ++ rowMark f s (xs.length - i) k := by
  rw [show xs.length - i = (xs.length - (i + 1)) + 1 by omega, List.take_succ_eq_append_getElem (by simp; omega)]
  simp [rowMark, List.take_set]
  rw [List.set_eq_of_length_le (by simp; omega)]
theorem rowHeld_step {α : Type} (f : Int → α) (s : Int) (xs : List α) (i : Nat) (k : Int) (z : α) (h : i < xs.length) : xs.drop i = rowMark f s (xs.length - i) k ↔ xs.getD i z = f k ∧ xs.drop (i + 1) = rowMark f s (xs.length - (i + 1)) (k + s) := by
  rw [show xs.length - i = (xs.length - (i + 1)) + 1 by omega, List.drop_eq_getElem_cons h, getD_lt _ _ _ h]
  simp only [rowMark, List.cons.injEq]
theorem mulN_step (s : Int) (n i : Nat) (h : i < n) : s * ((n - i : Nat) : Int) = s + s * ((n - (i + 1) : Nat) : Int) := by
  rw [show ((n - i : Nat) : Int) = 1 + ((n - (i + 1) : Nat) : Int) by omega, Int.mul_add, Int.mul_one]
def heldR {α : Type} [DecidableEq α] (f : Int → α) (s : Int) (xs : List α) (k : Int) : Int := if xs = rowMark f s xs.length k then k + s * (xs.length : Int) else -1
def mkFracV (k : Int) : tFrac.den := (k, k + 1)
def mkTempoV (k : Int) : tTempo.den := ((k, k + 1), k + 2)
def mkNoteV (k : Int) : tNote.den := ((k, k + 1), (k + 2, k + 3), k + 4, k + 5, k + 6)
def mkPitchV (k : Int) : tPitch.den := (k, k + 1, k + 2)
def ann_markNoteS_0 : LAnn := { sameS := [0], modS := [1, 5], sameH := [], modH := [700000], base := 900000, nilE := [], nilB := [], G := fun
  | ⟨[.row 700000], [], [.int .i64 k, .int .i64 e], [[.agg [.own (.pair (.pair (.int .i64) (.int .i64)) (.pair (.pair (.int .i64) (.int .i64)) (.pair (.int .i64) (.pair (.int .i64) (.int .i64))))) xs]]]⟩ => some (.p ((0 ≤ e ∧ e ≤ (xs.length : Int)) ∧ xs.length ≤ 16777216 ∧ (0 ≤ k ∧ k ≤ 1000000000000 + 7 * e)), .leaf (.exit 0) [.int .i64 (k + 7 * ((xs.length - e.toNat : Nat) : Int)), .unk] [[.agg [.own tNote (xs.take e.toNat ++ rowMark mkNoteV 7 (xs.length - e.toNat) k)]]])
  | _ => none }
def ct_markNoteS : Ct := ctOfW [.ov qNote, .v (.int .i64)] (fun ((ys : List tNote.den), (k : Int), _) => .p (ys.length ≤ 16777216 ∧ (0 ≤ k ∧ k ≤ 1000000000000))) (fun ((ys : List tNote.den), (k : Int), _) => .int .i64 (k + 7 * (ys.length : Int))) (fun ((ys : List tNote.den), (k : Int), _) => ⟨tNote, rowMark mkNoteV 7 ys.length k⟩)
set_option maxHeartbeats 1000000 in
theorem loop_markNoteS_0 : LoopSat Try.prog Try.f37.ntmps (loopAt Try.f37 0) ann_markNoteS_0 := by
  refine loopSat_of (C := C_Fj) (L := (addL (firstId (loopAt Try.f37 0)) ann_markNoteS_0 noL)) (wr := false) mixedOk C_Fj_ok (loopsIn0 (by kernel_rfl)) (fun d => match d.vals, d.boxes with | [_, .int _ e], [[.agg [.own _ xs]]] => ((xs.length : Int) - e).toNat | _, _ => 0) fun d p t hG hp => ?_
  simp only [ann_markNoteS_0] at hG
  split at hG
  rotate_left
  · simp at hG
  rename_i k e xs
  simp only [Option.some.injEq, Prod.mk.injEq] at hG
  obtain ⟨rfl, rfl⟩ := hG
  have htree : exRound Try.prog C_Fj false (addL (firstId (loopAt Try.f37 0)) ann_markNoteS_0 noL) Try.f37.ntmps ann_markNoteS_0 (loopAt Try.f37 0) ⟨[.row 700000], [], [.int .i64 k, .int .i64 e], [[.agg [.own tNote xs]]]⟩ = .ite (decide (e < (↑xs.length : Int))) (.need ((0 : Int) ≤ e ∧ e < (↑xs.length : Int)) (.need (e.toNat < xs.length) (.need (inK IntKind.i64 (k + (1 : Int))) (.need ((0 : Int) ≤ e ∧ e < (↑(setC tNote xs e.toNat (0 : Nat) [AV.int IntKind.i64 k]).length : Int)) (.need (e.toNat < (setC tNote xs e.toNat (0 : Nat) [AV.int IntKind.i64 k]).length) (.need (inK IntKind.i64 (k + (1 : Int) + (1 : Int))) (.need ((0 : Int) ≤ e ∧ e < (↑(setC tNote (setC tNote xs e.toNat (0 : Nat) [AV.int IntKind.i64 k]) e.toNat (1 : Nat) [AV.int IntKind.i64 (k + (1 : Int))]).length : Int)) (.need (e.toNat < (setC tNote (setC tNote xs e.toNat (0 : Nat) [AV.int IntKind.i64 k]) e.toNat (1 : Nat) [AV.int IntKind.i64 (k + (1 : Int))]).length) (.need (inK IntKind.i64 (k + (1 : Int) + (1 : Int) + (1 : Int))) (.need ((0 : Int) ≤ e ∧ e < (↑(setC tNote (setC tNote (setC tNote xs e.toNat (0 : Nat) [AV.int IntKind.i64 k]) e.toNat (1 : Nat) [AV.int IntKind.i64 (k + (1 : Int))]) e.toNat (2 : Nat) [AV.int IntKind.i64 (k + (1 : Int) + (1 : Int))]).length : Int)) (.need (e.toNat < (setC tNote (setC tNote (setC tNote xs e.toNat (0 : Nat) [AV.int IntKind.i64 k]) e.toNat (1 : Nat) [AV.int IntKind.i64 (k + (1 : Int))]) e.toNat (2 : Nat) [AV.int IntKind.i64 (k + (1 : Int) + (1 : Int))]).length) (.need (inK IntKind.i64 (k + (1 : Int) + (1 : Int) + (1 : Int) + (1 : Int))) (.need ((0 : Int) ≤ e ∧ e < (↑(setC tNote (setC tNote (setC tNote (setC tNote xs e.toNat (0 : Nat) [AV.int IntKind.i64 k]) e.toNat (1 : Nat) [AV.int IntKind.i64 (k + (1 : Int))]) e.toNat (2 : Nat) [AV.int IntKind.i64 (k + (1 : Int) + (1 : Int))]) e.toNat (3 : Nat) [AV.int IntKind.i64 (k + (1 : Int) + (1 : Int) + (1 : Int))]).length : Int)) (.need (e.toNat < (setC tNote (setC tNote (setC tNote (setC tNote xs e.toNat (0 : Nat) [AV.int IntKind.i64 k]) e.toNat (1 : Nat) [AV.int IntKind.i64 (k + (1 : Int))]) e.toNat (2 : Nat) [AV.int IntKind.i64 (k + (1 : Int) + (1 : Int))]) e.toNat (3 : Nat) [AV.int IntKind.i64 (k + (1 : Int) + (1 : Int) + (1 : Int))]).length) (.need (inK IntKind.i64 (k + (1 : Int) + (1 : Int) + (1 : Int) + (1 : Int) + (1 : Int))) (.need ((0 : Int) ≤ e ∧ e < (↑(setC tNote (setC tNote (setC tNote (setC tNote (setC tNote xs e.toNat (0 : Nat) [AV.int IntKind.i64 k]) e.toNat (1 : Nat) [AV.int IntKind.i64 (k + (1 : Int))]) e.toNat (2 : Nat) [AV.int IntKind.i64 (k + (1 : Int) + (1 : Int))]) e.toNat (3 : Nat) [AV.int IntKind.i64 (k + (1 : Int) + (1 : Int) + (1 : Int))]) e.toNat (4 : Nat) [AV.int IntKind.i64 (k + (1 : Int) + (1 : Int) + (1 : Int) + (1 : Int))]).length : Int)) (.need (e.toNat < (setC tNote (setC tNote (setC tNote (setC tNote (setC tNote xs e.toNat (0 : Nat) [AV.int IntKind.i64 k]) e.toNat (1 : Nat) [AV.int IntKind.i64 (k + (1 : Int))]) e.toNat (2 : Nat) [AV.int IntKind.i64 (k + (1 : Int) + (1 : Int))]) e.toNat (3 : Nat) [AV.int IntKind.i64 (k + (1 : Int) + (1 : Int) + (1 : Int))]) e.toNat (4 : Nat) [AV.int IntKind.i64 (k + (1 : Int) + (1 : Int) + (1 : Int) + (1 : Int))]).length) (.need (inK IntKind.i64 (k + (1 : Int) + (1 : Int) + (1 : Int) + (1 : Int) + (1 : Int) + (1 : Int))) (.need ((0 : Int) ≤ e ∧ e < (↑(setC tNote (setC tNote (setC tNote (setC tNote (setC tNote (setC tNote xs e.toNat (0 : Nat) [AV.int IntKind.i64 k]) e.toNat (1 : Nat) [AV.int IntKind.i64 (k + (1 : Int))]) e.toNat (2 : Nat) [AV.int IntKind.i64 (k + (1 : Int) + (1 : Int))]) e.toNat (3 : Nat) [AV.int IntKind.i64 (k + (1 : Int) + (1 : Int) + (1 : Int))]) e.toNat (4 : Nat) [AV.int IntKind.i64 (k + (1 : Int) + (1 : Int) + (1 : Int) + (1 : Int))]) e.toNat (5 : Nat) [AV.int IntKind.i64 (k + (1 : Int) + (1 : Int) + (1 : Int) + (1 : Int) + (1 : Int))]).length : Int)) (.need (e.toNat < (setC tNote (setC tNote (setC tNote (setC tNote (setC tNote (setC tNote xs e.toNat (0 : Nat) [AV.int IntKind.i64 k]) e.toNat (1 : Nat) [AV.int IntKind.i64 (k + (1 : Int))]) e.toNat (2 : Nat) [AV.int IntKind.i64 (k + (1 : Int) + (1 : Int))]) e.toNat (3 : Nat) [AV.int IntKind.i64 (k + (1 : Int) + (1 : Int) + (1 : Int))]) e.toNat (4 : Nat) [AV.int IntKind.i64 (k + (1 : Int) + (1 : Int) + (1 : Int) + (1 : Int))]) e.toNat (5 : Nat) [AV.int IntKind.i64 (k + (1 : Int) + (1 : Int) + (1 : Int) + (1 : Int) + (1 : Int))]).length) (.need (inK IntKind.i64 (k + (1 : Int) + (1 : Int) + (1 : Int) + (1 : Int) + (1 : Int) + (1 : Int) + (1 : Int))) (.need (inK IntKind.i64 (e + (1 : Int))) (.leaf (.normal, ⟨[.row 700000], [], [.int .i64 (k + (1 : Int) + (1 : Int) + (1 : Int) + (1 : Int) + (1 : Int) + (1 : Int) + (1 : Int)), .int .i64 (e + (1 : Int))], [[.agg [.own (tFrac.pair (tFrac.pair (I64.pair (I64.pair I64)))) (setC tNote (setC tNote (setC tNote (setC tNote (setC tNote (setC tNote (setC tNote xs e.toNat (0 : Nat) [AV.int IntKind.i64 k]) e.toNat (1 : Nat) [AV.int IntKind.i64 (k + (1 : Int))]) e.toNat (2 : Nat) [AV.int IntKind.i64 (k + (1 : Int) + (1 : Int))]) e.toNat (3 : Nat) [AV.int IntKind.i64 (k + (1 : Int) + (1 : Int) + (1 : Int))]) e.toNat (4 : Nat) [AV.int IntKind.i64 (k + (1 : Int) + (1 : Int) + (1 : Int) + (1 : Int))]) e.toNat (5 : Nat) [AV.int IntKind.i64 (k + (1 : Int) + (1 : Int) + (1 : Int) + (1 : Int) + (1 : Int))]) e.toNat (6 : Nat) [AV.int IntKind.i64 (k + (1 : Int) + (1 : Int) + (1 : Int) + (1 : Int) + (1 : Int) + (1 : Int))])]]]⟩)))))))))))))))))))))))) (.leaf ((.exit 0), ⟨[.row 700000], [], [.int .i64 (k), .int .i64 (e)], [[.agg [.own (tFrac.pair (tFrac.pair (I64.pair (I64.pair I64)))) (xs)]]]⟩)) := by kernel_rfl
  rw [htree]
  clear htree
  replace hp : (0 ≤ e ∧ e ≤ (xs.length : Int)) ∧ xs.length ≤ 16777216 ∧ (0 ≤ k ∧ k ≤ 1000000000000 + 7 * e) := hp
  simp only [Tree.ok, tyd_inj, packAV, AV.same, AV.same.sameL, encV, encS, enc, inK, Nd.ok, List.headD_cons, List.cons_append, List.nil_append, List.append_nil, true_and, and_true, Bool.true_and, Bool.and_true, loop_next, weakBs_nil, weakBs_cons, weakB_self, weakB_row, weakB_int, weakL_nil, weakL_unk, weakL_guess, isRow_own, isRow_unk, weakL_int, weakL_bool, weakL_str, weakL_own, weakL_view, weakL_nilS, noRow_int, noRow_bool, own_inj, LTree.val, cond_true, cond_false, Prod.mk.injEq, List.cons.injEq, AV.int.injEq, AV.bool.injEq, AV.str.injEq, AV.agg.injEq, ann_markNoteS_0, decide_eq_true_eq, decide_eq_false_iff_not]
  refine ⟨fun ha => ?_, fun ha => ?_⟩
  · have h1 : e.toNat < xs.length := by omega
    have hs : ∀ (l : List tNote.den) (a z : tNote.den), e.toNat < l.length → (l.set e.toNat a).getD e.toNat z = a := fun l a z h => getD_set_self l _ a z h
    simp only [setC, hs _ _ _, List.length_set, h1, List.set_set]
    have h2 := rowMark_step mkNoteV 7 xs e.toNat k h1
    have h3 := mulN_step 7 xs.length e.toNat h1
    simp only [mkNoteV] at h2
    rw [show (e + 1).toNat = e.toNat + 1 by omega]
    simp only [Int.add_assoc, Int.reduceAdd] at h2 ⊢
    repeat' first | apply And.intro | intro _
    all_goals first | exact h2 | omega | trivial | rfl | assumption
  · rw [show e.toNat = xs.length by omega]
    simp [rowMark]
theorem loops_markNoteS : ∀ c, Try.f37.body = some c → LoopsOk Try.prog (addL (firstId (loopAt Try.f37 0)) ann_markNoteS_0 noL) Try.f37.ntmps c := loopsN fun i hi ann h => by
  have hn : loopN Try.f37 = 1 := by kernel_rfl
  rw [hn] at hi
  exact match i, hi, h with
    | 0, _, h => (Option.some.inj ((show (addL (firstId (loopAt Try.f37 0)) ann_markNoteS_0 noL) (firstId (loopAt Try.f37 0)) = some ann_markNoteS_0 from by kernel_rfl).symm.trans h)) ▸ loop_markNoteS_0
set_option maxHeartbeats 1000000 in
theorem sat_markNoteS : Sat Try.prog 37 ct_markNoteS := by
  refine sat_typedW (C := C_Fj) (L := (addL (firstId (loopAt Try.f37 0)) ann_markNoteS_0 noL)) (wr := false) mixedOk Try.func37 C_Fj_ok (loops_markNoteS) (fun _ => rfl) fun x hp => ?_
  obtain ⟨(ys : List tNote.den), (k : Int), _⟩ := x
  replace hp : ys.length ≤ 16777216 ∧ (0 ≤ k ∧ k ≤ 1000000000000) := hp
  have htree : exFuncW Try.prog C_Fj false (addL (firstId (loopAt Try.f37 0)) ann_markNoteS_0 noL) Try.f37 true (rowed.rowedL BR (encA [.ov qNote, .v (.int .i64)] (ys, k, ()))) ⟨tNote, ys⟩ = .need (((0 : Int) ≤ (0 : Int) ∧ (0 : Int) ≤ (↑ys.length : Int)) ∧ ys.length ≤ (16777216 : Nat) ∧ (0 : Int) ≤ k ∧ k ≤ (1000000000000 : Int) + (7 : Int) * (0 : Int)) (.leaf ([.int .i64 (k + (7 : Int) * (↑(ys.length - Int.toNat (0 : Int)) : Int))], some ⟨tFrac.pair (tFrac.pair (I64.pair (I64.pair I64))), List.take (Int.toNat (0 : Int)) ys ++ rowMark mkNoteV (7 : Int) (ys.length - Int.toNat (0 : Int)) k⟩)) := by kernel_rfl
  refine (congrArg (Tree.ok _) htree).mpr ?_
  clear htree
  simp only [Tree.ok, tyd_inj, packAV, AV.same, AV.same.sameL, encV, encS, enc, inK, Nd.ok, List.headD_cons, List.cons_append, List.nil_append, List.append_nil, true_and, and_true, Bool.true_and, Bool.and_true, ownA, encA, encSh, encO, List.headD_cons, ownsOf.ownsL, ownsOf, Int.toNat_zero, List.take_zero, Nat.sub_zero]
  repeat' first | apply And.intro | intro _
  all_goals first | omega | trivial | rfl | assumption
def C_Fk_1 : FuncId → Option Ct := addC 37 ct_markNoteS C_Fj
theorem C_Fk_1_ok : COk Try.prog C_Fk_1 := addC_ok C_Fj_ok sat_markNoteS
def ann_heldNoteS_0 : LAnn := { sameS := [0], modS := [1, 4, 5], sameH := [], modH := [], base := 900000, nilE := [], nilB := [], G := fun
  | ⟨[.view (.pair (.pair (.int .i64) (.int .i64)) (.pair (.pair (.int .i64) (.int .i64)) (.pair (.int .i64) (.pair (.int .i64) (.int .i64))))) xs], [], [.int .i64 k, .int .i64 r, .int .i64 e], []⟩ => some (.p ((0 ≤ e ∧ e ≤ (xs.length : Int)) ∧ xs.length ≤ 16777216 ∧ (0 ≤ k ∧ k ≤ 1000000000000 + 7 * e)), .ite (decide (xs.drop e.toNat = rowMark mkNoteV 7 (xs.length - e.toNat) k)) (.leaf (.exit 0) [.int .i64 (k + 7 * ((xs.length - e.toNat : Nat) : Int)), .unk, .unk] []) (.leaf .ret [.unk, .int .i64 (-1), .unk] []))
  | _ => none }
def ct_heldNoteS : Ct := ctOf [.v qNote, .v (.int .i64)] (fun ((ys : List tNote.den), (k : Int), _) => .p (ys.length ≤ 16777216 ∧ (0 ≤ k ∧ k ≤ 1000000000000))) (fun ((ys : List tNote.den), (k : Int), _) => .int .i64 (heldR mkNoteV 7 ys k))
set_option maxHeartbeats 1000000 in
theorem loop_heldNoteS_0 : LoopSat Try.prog Try.f38.ntmps (loopAt Try.f38 0) ann_heldNoteS_0 := by
  refine loopSat_of (C := C_Fk_1) (L := (addL (firstId (loopAt Try.f38 0)) ann_heldNoteS_0 noL)) (wr := false) mixedOk C_Fk_1_ok (loopsIn0 (by kernel_rfl)) (fun d => match d.same, d.vals with | [.view _ xs], [_, _, .int _ e] => ((xs.length : Int) - e).toNat | _, _ => 0) fun d p t hG hp => ?_
  simp only [ann_heldNoteS_0] at hG
  split at hG
  rotate_left
  · simp at hG
  rename_i xs k r e
  simp only [Option.some.injEq, Prod.mk.injEq] at hG
  obtain ⟨rfl, rfl⟩ := hG
  have htree : exRound Try.prog C_Fk_1 false (addL (firstId (loopAt Try.f38 0)) ann_heldNoteS_0 noL) Try.f38.ntmps ann_heldNoteS_0 (loopAt Try.f38 0) ⟨[.view tNote xs], [], [.int .i64 k, .int .i64 r, .int .i64 e], []⟩ = .ite (decide (e < (↑xs.length : Int))) (.need ((0 : Int) ≤ e ∧ e < (↑xs.length : Int)) (.ite ((getT tNote xs e).fst.fst != k) (.leaf (.ret, ⟨[.view (tFrac.pair (tFrac.pair (I64.pair (I64.pair I64)))) (xs)], [], [.int .i64 (k), .int .i64 ((-1 : Int)), .int .i64 (e)], []⟩)) (.need (inK IntKind.i64 (k + (1 : Int))) (.need ((0 : Int) ≤ e ∧ e < (↑xs.length : Int)) (.ite ((getT tNote xs e).fst.snd != k + (1 : Int)) (.leaf (.ret, ⟨[.view (tFrac.pair (tFrac.pair (I64.pair (I64.pair I64)))) (xs)], [], [.int .i64 (k + (1 : Int)), .int .i64 ((-1 : Int)), .int .i64 (e)], []⟩)) (.need (inK IntKind.i64 (k + (1 : Int) + (1 : Int))) (.need ((0 : Int) ≤ e ∧ e < (↑xs.length : Int)) (.ite ((getT tNote xs e).snd.fst.fst != k + (1 : Int) + (1 : Int)) (.leaf (.ret, ⟨[.view (tFrac.pair (tFrac.pair (I64.pair (I64.pair I64)))) (xs)], [], [.int .i64 (k + (1 : Int) + (1 : Int)), .int .i64 ((-1 : Int)), .int .i64 (e)], []⟩)) (.need (inK IntKind.i64 (k + (1 : Int) + (1 : Int) + (1 : Int))) (.need ((0 : Int) ≤ e ∧ e < (↑xs.length : Int)) (.ite ((getT tNote xs e).snd.fst.snd != k + (1 : Int) + (1 : Int) + (1 : Int)) (.leaf (.ret, ⟨[.view (tFrac.pair (tFrac.pair (I64.pair (I64.pair I64)))) (xs)], [], [.int .i64 (k + (1 : Int) + (1 : Int) + (1 : Int)), .int .i64 ((-1 : Int)), .int .i64 (e)], []⟩)) (.need (inK IntKind.i64 (k + (1 : Int) + (1 : Int) + (1 : Int) + (1 : Int))) (.need ((0 : Int) ≤ e ∧ e < (↑xs.length : Int)) (.ite ((getT tNote xs e).snd.snd.fst != k + (1 : Int) + (1 : Int) + (1 : Int) + (1 : Int)) (.leaf (.ret, ⟨[.view (tFrac.pair (tFrac.pair (I64.pair (I64.pair I64)))) (xs)], [], [.int .i64 (k + (1 : Int) + (1 : Int) + (1 : Int) + (1 : Int)), .int .i64 ((-1 : Int)), .int .i64 (e)], []⟩)) (.need (inK IntKind.i64 (k + (1 : Int) + (1 : Int) + (1 : Int) + (1 : Int) + (1 : Int))) (.need ((0 : Int) ≤ e ∧ e < (↑xs.length : Int)) (.ite ((getT tNote xs e).snd.snd.snd.fst != k + (1 : Int) + (1 : Int) + (1 : Int) + (1 : Int) + (1 : Int)) (.leaf (.ret, ⟨[.view (tFrac.pair (tFrac.pair (I64.pair (I64.pair I64)))) (xs)], [], [.int .i64 (k + (1 : Int) + (1 : Int) + (1 : Int) + (1 : Int) + (1 : Int)), .int .i64 ((-1 : Int)), .int .i64 (e)], []⟩)) (.need (inK IntKind.i64 (k + (1 : Int) + (1 : Int) + (1 : Int) + (1 : Int) + (1 : Int) + (1 : Int))) (.need ((0 : Int) ≤ e ∧ e < (↑xs.length : Int)) (.ite ((getT tNote xs e).snd.snd.snd.snd != k + (1 : Int) + (1 : Int) + (1 : Int) + (1 : Int) + (1 : Int) + (1 : Int)) (.leaf (.ret, ⟨[.view (tFrac.pair (tFrac.pair (I64.pair (I64.pair I64)))) (xs)], [], [.int .i64 (k + (1 : Int) + (1 : Int) + (1 : Int) + (1 : Int) + (1 : Int) + (1 : Int)), .int .i64 ((-1 : Int)), .int .i64 (e)], []⟩)) (.need (inK IntKind.i64 (k + (1 : Int) + (1 : Int) + (1 : Int) + (1 : Int) + (1 : Int) + (1 : Int) + (1 : Int))) (.need (inK IntKind.i64 (e + (1 : Int))) (.leaf (.normal, ⟨[.view (tFrac.pair (tFrac.pair (I64.pair (I64.pair I64)))) (xs)], [], [.int .i64 (k + (1 : Int) + (1 : Int) + (1 : Int) + (1 : Int) + (1 : Int) + (1 : Int) + (1 : Int)), .int .i64 (r), .int .i64 (e + (1 : Int))], []⟩)))))))))))))))))))))))) (.leaf ((.exit 0), ⟨[.view (tFrac.pair (tFrac.pair (I64.pair (I64.pair I64)))) (xs)], [], [.int .i64 (k), .int .i64 (r), .int .i64 (e)], []⟩)) := by kernel_rfl
  rw [htree]
  clear htree
  replace hp : (0 ≤ e ∧ e ≤ (xs.length : Int)) ∧ xs.length ≤ 16777216 ∧ (0 ≤ k ∧ k ≤ 1000000000000 + 7 * e) := hp
  simp only [Tree.ok, tyd_inj, packAV, AV.same, AV.same.sameL, encV, encS, enc, inK, Nd.ok, List.headD_cons, List.cons_append, List.nil_append, List.append_nil, true_and, and_true, Bool.true_and, Bool.and_true, loop_next, weakBs_nil, weakBs_cons, weakB_self, weakB_row, weakB_int, weakL_nil, weakL_unk, weakL_guess, isRow_own, isRow_unk, weakL_int, weakL_bool, weakL_str, weakL_own, weakL_view, weakL_nilS, noRow_int, noRow_bool, own_inj, LTree.val, cond_true, cond_false, Prod.mk.injEq, List.cons.injEq, AV.int.injEq, AV.bool.injEq, AV.str.injEq, AV.agg.injEq, ann_heldNoteS_0, decide_eq_true_eq, decide_eq_false_iff_not, bne_iff_ne, ne_eq, bne_eq_false_iff_eq, getT]
  refine ⟨fun ha => ?_, fun ha => ?_⟩
  · have h1 : e.toNat < xs.length := by omega
    have h2 := rowHeld_step mkNoteV 7 xs e.toNat k tNote.zero h1
    have h3 := mulN_step 7 xs.length e.toNat h1
    simp only [mkNoteV, Prod.ext_iff] at h2 ⊢
    rw [show (e + 1).toNat = e.toNat + 1 by omega]
    simp only [Int.add_assoc, Int.reduceAdd] at h2 ⊢
    replace h2 := (decide_eq_true_iff (p := _)).trans (h2.trans (and_congr_right fun _ => (decide_eq_true_iff (p := _)).symm))
    generalize decide (xs.drop e.toNat = rowMark mkNoteV 7 (xs.length - e.toNat) k) = bA at *
    generalize decide (xs.drop (e.toNat + 1) = rowMark mkNoteV 7 (xs.length - (e.toNat + 1)) (k + 7)) = bB at *
    generalize xs.getD e.toNat tNote.zero = x at *
    cases bA <;> cases bB <;> simp only [Tree.ok, tyd_inj, packAV, AV.same, AV.same.sameL, encV, encS, enc, inK, Nd.ok, List.headD_cons, List.cons_append, List.nil_append, List.append_nil, true_and, and_true, Bool.true_and, Bool.and_true, loop_next, weakBs_nil, weakBs_cons, weakB_self, weakB_row, weakB_int, weakL_nil, weakL_unk, weakL_guess, isRow_own, isRow_unk, weakL_int, weakL_bool, weakL_str, weakL_own, weakL_view, weakL_nilS, noRow_int, noRow_bool, own_inj, LTree.val, cond_true, cond_false, Prod.mk.injEq, List.cons.injEq, AV.int.injEq, AV.bool.injEq, AV.str.injEq, AV.agg.injEq, Bool.false_eq_true, and_true, and_false, iff_false, iff_true, true_iff, false_iff, not_true, reduceCtorEq] at h2 ⊢
    all_goals
      repeat' first | apply And.intro | intro _
      all_goals first | omega | trivial | assumption | (simp_all [Tree.ok, tyd_inj, packAV, AV.same, AV.same.sameL, encV, encS, enc, inK, Nd.ok, List.headD_cons, List.cons_append, List.nil_append, List.append_nil, true_and, and_true, Bool.true_and, Bool.and_true, loop_next, weakBs_nil, weakBs_cons, weakB_self, weakB_row, weakB_int, weakL_nil, weakL_unk, weakL_guess, isRow_own, isRow_unk, weakL_int, weakL_bool, weakL_str, weakL_own, weakL_view, weakL_nilS, noRow_int, noRow_bool, own_inj, LTree.val, cond_true, cond_false, Prod.mk.injEq, List.cons.injEq, AV.int.injEq, AV.bool.injEq, AV.str.injEq, AV.agg.injEq]; done) | (simp_all [Tree.ok, tyd_inj, packAV, AV.same, AV.same.sameL, encV, encS, enc, inK, Nd.ok, List.headD_cons, List.cons_append, List.nil_append, List.append_nil, true_and, and_true, Bool.true_and, Bool.and_true, loop_next, weakBs_nil, weakBs_cons, weakB_self, weakB_row, weakB_int, weakL_nil, weakL_unk, weakL_guess, isRow_own, isRow_unk, weakL_int, weakL_bool, weakL_str, weakL_own, weakL_view, weakL_nilS, noRow_int, noRow_bool, own_inj, LTree.val, cond_true, cond_false, Prod.mk.injEq, List.cons.injEq, AV.int.injEq, AV.bool.injEq, AV.str.injEq, AV.agg.injEq]; omega) | grind
  · rw [show e.toNat = xs.length by omega]
    simp [Tree.ok, tyd_inj, packAV, AV.same, AV.same.sameL, encV, encS, enc, inK, Nd.ok, List.headD_cons, List.cons_append, List.nil_append, List.append_nil, true_and, and_true, Bool.true_and, Bool.and_true, loop_next, weakBs_nil, weakBs_cons, weakB_self, weakB_row, weakB_int, weakL_nil, weakL_unk, weakL_guess, isRow_own, isRow_unk, weakL_int, weakL_bool, weakL_str, weakL_own, weakL_view, weakL_nilS, noRow_int, noRow_bool, own_inj, LTree.val, cond_true, cond_false, Prod.mk.injEq, List.cons.injEq, AV.int.injEq, AV.bool.injEq, AV.str.injEq, AV.agg.injEq, rowMark]
theorem loops_heldNoteS : ∀ c, Try.f38.body = some c → LoopsOk Try.prog (addL (firstId (loopAt Try.f38 0)) ann_heldNoteS_0 noL) Try.f38.ntmps c := loopsN fun i hi ann h => by
  have hn : loopN Try.f38 = 1 := by kernel_rfl
  rw [hn] at hi
  exact match i, hi, h with
    | 0, _, h => (Option.some.inj ((show (addL (firstId (loopAt Try.f38 0)) ann_heldNoteS_0 noL) (firstId (loopAt Try.f38 0)) = some ann_heldNoteS_0 from by kernel_rfl).symm.trans h)) ▸ loop_heldNoteS_0
set_option maxHeartbeats 1000000 in
theorem sat_heldNoteS : Sat Try.prog 38 ct_heldNoteS := by
  refine sat_typed (C := C_Fk_1) (L := (addL (firstId (loopAt Try.f38 0)) ann_heldNoteS_0 noL)) (wr := false) mixedOk Try.func38 C_Fk_1_ok (loops_heldNoteS) (fun _ => by first | rfl | (simp [ownsOf, ownsOf.ownsL, enc, encV, encS])) fun x hp => ?_
  obtain ⟨(ys : List tNote.den), (k : Int), _⟩ := x
  replace hp : ys.length ≤ 16777216 ∧ (0 ≤ k ∧ k ≤ 1000000000000) := hp
  have htree : exFunc Try.prog C_Fk_1 false (addL (firstId (loopAt Try.f38 0)) ann_heldNoteS_0 noL) Try.f38 (encA [.v qNote, .v (.int .i64)] (ys, k, ())) = .need (((0 : Int) ≤ (0 : Int) ∧ (0 : Int) ≤ (↑ys.length : Int)) ∧ ys.length ≤ (16777216 : Nat) ∧ (0 : Int) ≤ k ∧ k ≤ (1000000000000 : Int) + (7 : Int) * (0 : Int)) (.ite (decide (List.drop (Int.toNat (0 : Int)) ys = rowMark mkNoteV (7 : Int) (ys.length - Int.toNat (0 : Int)) k)) (.leaf [.int .i64 (k + (7 : Int) * (↑(ys.length - Int.toNat (0 : Int)) : Int))]) (.leaf [.int .i64 ((-1 : Int))])) := by kernel_rfl
  refine (congrArg (Tree.ok _) htree).mpr ?_
  clear htree
  simp only [Tree.ok, tyd_inj, packAV, AV.same, AV.same.sameL, encV, encS, enc, inK, Nd.ok, List.headD_cons, List.cons_append, List.nil_append, List.append_nil, true_and, and_true, Bool.true_and, Bool.and_true, heldR, Int.toNat_zero, List.drop_zero, Nat.sub_zero, decide_eq_true_eq, decide_eq_false_iff_not]
  repeat' first | apply And.intro | intro _
  all_goals first | omega | trivial | assumption | (rename_i h; first | rw [if_pos h] | rw [if_neg h])
def C_Fk_2 : FuncId → Option Ct := addC 38 ct_heldNoteS C_Fk_1
theorem C_Fk_2_ok : COk Try.prog C_Fk_2 := addC_ok C_Fk_1_ok sat_heldNoteS
def ct_clonePitchS : Ct := ctOf [.v qPitch] (fun ((ys : List tPitch.den), _) => .p (ys.length ≤ 16777216)) (fun ((ys : List tPitch.den), _) => .own tPitch ys)
set_option maxHeartbeats 1000000 in
theorem sat_clonePitchS : Sat Try.prog 48 ct_clonePitchS := by
  refine sat_typed (C := C_Fk_2) (L := noL) (wr := false) mixedOk Try.func48 C_Fk_2_ok (loops0 (by kernel_rfl)) (fun _ => by first | rfl | (simp [ownsOf, ownsOf.ownsL, enc, encV, encS])) fun x hp => ?_
  obtain ⟨(ys : List tPitch.den), _⟩ := x
  replace hp : ys.length ≤ 16777216 := hp
  have htree : exFunc Try.prog C_Fk_2 false noL Try.f48 (encA [.v qPitch] (ys, ())) = .both (ys = []) (.leaf [.nilS]) (.need ((0 : Nat) + ys.length ≤ (16777216 : Nat)) (.leaf [.own ((Ty.int IntKind.i64).pair ((Ty.int IntKind.i64).pair (Ty.int IntKind.i64))) ([] ++ ys)])) := by kernel_rfl
  refine (congrArg (Tree.ok _) htree).mpr ?_
  clear htree
  simp only [Tree.ok, tyd_inj, packAV, AV.same, AV.same.sameL, encV, encS, enc, inK, Nd.ok, List.headD_cons, List.cons_append, List.nil_append, List.append_nil, true_and, and_true, Bool.true_and, Bool.and_true, List.length_nil, Nat.zero_add, Nat.zero_le]
  repeat' first | apply And.intro | intro _
  all_goals first | assumption | omega | rfl
def C_Fk_3 : FuncId → Option Ct := addC 48 ct_clonePitchS C_Fk_2
theorem C_Fk_3_ok : COk Try.prog C_Fk_3 := addC_ok C_Fk_2_ok sat_clonePitchS
def ann_markPitchS_0 : LAnn := { sameS := [0], modS := [1, 5], sameH := [], modH := [700000], base := 900000, nilE := [], nilB := [], G := fun
  | ⟨[.row 700000], [], [.int .i64 k, .int .i64 e], [[.agg [.own (.pair (.int .i64) (.pair (.int .i64) (.int .i64))) xs]]]⟩ => some (.p ((0 ≤ e ∧ e ≤ (xs.length : Int)) ∧ xs.length ≤ 16777216 ∧ (0 ≤ k ∧ k ≤ 1000000000000 + 3 * e)), .leaf (.exit 0) [.int .i64 (k + 3 * ((xs.length - e.toNat : Nat) : Int)), .unk] [[.agg [.own tPitch (xs.take e.toNat ++ rowMark mkPitchV 3 (xs.length - e.toNat) k)]]])
  | _ => none }
def ct_markPitchS : Ct := ctOfW [.ov qPitch, .v (.int .i64)] (fun ((ys : List tPitch.den), (k : Int), _) => .p (ys.length ≤ 16777216 ∧ (0 ≤ k ∧ k ≤ 1000000000000))) (fun ((ys : List tPitch.den), (k : Int), _) => .int .i64 (k + 3 * (ys.length : Int))) (fun ((ys : List tPitch.den), (k : Int), _) => ⟨tPitch, rowMark mkPitchV 3 ys.length k⟩)
set_option maxHeartbeats 1000000 in
theorem loop_markPitchS_0 : LoopSat Try.prog Try.f36.ntmps (loopAt Try.f36 0) ann_markPitchS_0 := by
  refine loopSat_of (C := C_Fk_3) (L := (addL (firstId (loopAt Try.f36 0)) ann_markPitchS_0 noL)) (wr := false) mixedOk C_Fk_3_ok (loopsIn0 (by kernel_rfl)) (fun d => match d.vals, d.boxes with | [_, .int _ e], [[.agg [.own _ xs]]] => ((xs.length : Int) - e).toNat | _, _ => 0) fun d p t hG hp => ?_
  simp only [ann_markPitchS_0] at hG
  split at hG
  rotate_left
  · simp at hG
  rename_i k e xs
  simp only [Option.some.injEq, Prod.mk.injEq] at hG
  obtain ⟨rfl, rfl⟩ := hG
  have htree : exRound Try.prog C_Fk_3 false (addL (firstId (loopAt Try.f36 0)) ann_markPitchS_0 noL) Try.f36.ntmps ann_markPitchS_0 (loopAt Try.f36 0) ⟨[.row 700000], [], [.int .i64 k, .int .i64 e], [[.agg [.own tPitch xs]]]⟩ = .ite (decide (e < (↑xs.length : Int))) (.need ((0 : Int) ≤ e ∧ e < (↑xs.length : Int)) (.need (e.toNat < xs.length) (.need (inK IntKind.i64 (k + (1 : Int))) (.need ((0 : Int) ≤ e ∧ e < (↑(setC tPitch xs e.toNat (0 : Nat) [AV.int IntKind.i64 k]).length : Int)) (.need (e.toNat < (setC tPitch xs e.toNat (0 : Nat) [AV.int IntKind.i64 k]).length) (.need (inK IntKind.i64 (k + (1 : Int) + (1 : Int))) (.need ((0 : Int) ≤ e ∧ e < (↑(setC tPitch (setC tPitch xs e.toNat (0 : Nat) [AV.int IntKind.i64 k]) e.toNat (1 : Nat) [AV.int IntKind.i64 (k + (1 : Int))]).length : Int)) (.need (e.toNat < (setC tPitch (setC tPitch xs e.toNat (0 : Nat) [AV.int IntKind.i64 k]) e.toNat (1 : Nat) [AV.int IntKind.i64 (k + (1 : Int))]).length) (.need (inK IntKind.i64 (k + (1 : Int) + (1 : Int) + (1 : Int))) (.need (inK IntKind.i64 (e + (1 : Int))) (.leaf (.normal, ⟨[.row 700000], [], [.int .i64 (k + (1 : Int) + (1 : Int) + (1 : Int)), .int .i64 (e + (1 : Int))], [[.agg [.own (I64.pair (I64.pair I64)) (setC tPitch (setC tPitch (setC tPitch xs e.toNat (0 : Nat) [AV.int IntKind.i64 k]) e.toNat (1 : Nat) [AV.int IntKind.i64 (k + (1 : Int))]) e.toNat (2 : Nat) [AV.int IntKind.i64 (k + (1 : Int) + (1 : Int))])]]]⟩)))))))))))) (.leaf ((.exit 0), ⟨[.row 700000], [], [.int .i64 (k), .int .i64 (e)], [[.agg [.own (I64.pair (I64.pair I64)) (xs)]]]⟩)) := by kernel_rfl
  rw [htree]
  clear htree
  replace hp : (0 ≤ e ∧ e ≤ (xs.length : Int)) ∧ xs.length ≤ 16777216 ∧ (0 ≤ k ∧ k ≤ 1000000000000 + 3 * e) := hp
  simp only [Tree.ok, tyd_inj, packAV, AV.same, AV.same.sameL, encV, encS, enc, inK, Nd.ok, List.headD_cons, List.cons_append, List.nil_append, List.append_nil, true_and, and_true, Bool.true_and, Bool.and_true, loop_next, weakBs_nil, weakBs_cons, weakB_self, weakB_row, weakB_int, weakL_nil, weakL_unk, weakL_guess, isRow_own, isRow_unk, weakL_int, weakL_bool, weakL_str, weakL_own, weakL_view, weakL_nilS, noRow_int, noRow_bool, own_inj, LTree.val, cond_true, cond_false, Prod.mk.injEq, List.cons.injEq, AV.int.injEq, AV.bool.injEq, AV.str.injEq, AV.agg.injEq, ann_markPitchS_0, decide_eq_true_eq, decide_eq_false_iff_not]
  refine ⟨fun ha => ?_, fun ha => ?_⟩
  · have h1 : e.toNat < xs.length := by omega
    have hs : ∀ (l : List tPitch.den) (a z : tPitch.den), e.toNat < l.length → (l.set e.toNat a).getD e.toNat z = a := fun l a z h => getD_set_self l _ a z h
    simp only [setC, hs _ _ _, List.length_set, h1, List.set_set]
    have h2 := rowMark_step mkPitchV 3 xs e.toNat k h1
    have h3 := mulN_step 3 xs.length e.toNat h1
    simp only [mkPitchV] at h2
    rw [show (e + 1).toNat = e.toNat + 1 by omega]
    simp only [Int.add_assoc, Int.reduceAdd] at h2 ⊢
    repeat' first | apply And.intro | intro _
    all_goals first | exact h2 | omega | trivial | rfl | assumption
  · rw [show e.toNat = xs.length by omega]
    simp [rowMark]
theorem loops_markPitchS : ∀ c, Try.f36.body = some c → LoopsOk Try.prog (addL (firstId (loopAt Try.f36 0)) ann_markPitchS_0 noL) Try.f36.ntmps c := loopsN fun i hi ann h => by
  have hn : loopN Try.f36 = 1 := by kernel_rfl
  rw [hn] at hi
  exact match i, hi, h with
    | 0, _, h => (Option.some.inj ((show (addL (firstId (loopAt Try.f36 0)) ann_markPitchS_0 noL) (firstId (loopAt Try.f36 0)) = some ann_markPitchS_0 from by kernel_rfl).symm.trans h)) ▸ loop_markPitchS_0
set_option maxHeartbeats 1000000 in
theorem sat_markPitchS : Sat Try.prog 36 ct_markPitchS := by
  refine sat_typedW (C := C_Fk_3) (L := (addL (firstId (loopAt Try.f36 0)) ann_markPitchS_0 noL)) (wr := false) mixedOk Try.func36 C_Fk_3_ok (loops_markPitchS) (fun _ => rfl) fun x hp => ?_
  obtain ⟨(ys : List tPitch.den), (k : Int), _⟩ := x
  replace hp : ys.length ≤ 16777216 ∧ (0 ≤ k ∧ k ≤ 1000000000000) := hp
  have htree : exFuncW Try.prog C_Fk_3 false (addL (firstId (loopAt Try.f36 0)) ann_markPitchS_0 noL) Try.f36 true (rowed.rowedL BR (encA [.ov qPitch, .v (.int .i64)] (ys, k, ()))) ⟨tPitch, ys⟩ = .need (((0 : Int) ≤ (0 : Int) ∧ (0 : Int) ≤ (↑ys.length : Int)) ∧ ys.length ≤ (16777216 : Nat) ∧ (0 : Int) ≤ k ∧ k ≤ (1000000000000 : Int) + (3 : Int) * (0 : Int)) (.leaf ([.int .i64 (k + (3 : Int) * (↑(ys.length - Int.toNat (0 : Int)) : Int))], some ⟨I64.pair (I64.pair I64), List.take (Int.toNat (0 : Int)) ys ++ rowMark mkPitchV (3 : Int) (ys.length - Int.toNat (0 : Int)) k⟩)) := by kernel_rfl
  refine (congrArg (Tree.ok _) htree).mpr ?_
  clear htree
  simp only [Tree.ok, tyd_inj, packAV, AV.same, AV.same.sameL, encV, encS, enc, inK, Nd.ok, List.headD_cons, List.cons_append, List.nil_append, List.append_nil, true_and, and_true, Bool.true_and, Bool.and_true, ownA, encA, encSh, encO, List.headD_cons, ownsOf.ownsL, ownsOf, Int.toNat_zero, List.take_zero, Nat.sub_zero]
  repeat' first | apply And.intro | intro _
  all_goals first | omega | trivial | rfl | assumption
def C_Fk_4 : FuncId → Option Ct := addC 36 ct_markPitchS C_Fk_3
theorem C_Fk_4_ok : COk Try.prog C_Fk_4 := addC_ok C_Fk_3_ok sat_markPitchS
def ann_heldPitchS_0 : LAnn := { sameS := [0], modS := [1, 4, 5], sameH := [], modH := [], base := 900000, nilE := [], nilB := [], G := fun
  | ⟨[.view (.pair (.int .i64) (.pair (.int .i64) (.int .i64))) xs], [], [.int .i64 k, .int .i64 r, .int .i64 e], []⟩ => some (.p ((0 ≤ e ∧ e ≤ (xs.length : Int)) ∧ xs.length ≤ 16777216 ∧ (0 ≤ k ∧ k ≤ 1000000000000 + 3 * e)), .ite (decide (xs.drop e.toNat = rowMark mkPitchV 3 (xs.length - e.toNat) k)) (.leaf (.exit 0) [.int .i64 (k + 3 * ((xs.length - e.toNat : Nat) : Int)), .unk, .unk] []) (.leaf .ret [.unk, .int .i64 (-1), .unk] []))
  | _ => none }
def ct_heldPitchS : Ct := ctOf [.v qPitch, .v (.int .i64)] (fun ((ys : List tPitch.den), (k : Int), _) => .p (ys.length ≤ 16777216 ∧ (0 ≤ k ∧ k ≤ 1000000000000))) (fun ((ys : List tPitch.den), (k : Int), _) => .int .i64 (heldR mkPitchV 3 ys k))
set_option maxHeartbeats 1000000 in
theorem loop_heldPitchS_0 : LoopSat Try.prog Try.f42.ntmps (loopAt Try.f42 0) ann_heldPitchS_0 := by
  refine loopSat_of (C := C_Fk_4) (L := (addL (firstId (loopAt Try.f42 0)) ann_heldPitchS_0 noL)) (wr := false) mixedOk C_Fk_4_ok (loopsIn0 (by kernel_rfl)) (fun d => match d.same, d.vals with | [.view _ xs], [_, _, .int _ e] => ((xs.length : Int) - e).toNat | _, _ => 0) fun d p t hG hp => ?_
  simp only [ann_heldPitchS_0] at hG
  split at hG
  rotate_left
  · simp at hG
  rename_i xs k r e
  simp only [Option.some.injEq, Prod.mk.injEq] at hG
  obtain ⟨rfl, rfl⟩ := hG
  have htree : exRound Try.prog C_Fk_4 false (addL (firstId (loopAt Try.f42 0)) ann_heldPitchS_0 noL) Try.f42.ntmps ann_heldPitchS_0 (loopAt Try.f42 0) ⟨[.view tPitch xs], [], [.int .i64 k, .int .i64 r, .int .i64 e], []⟩ = .ite (decide (e < (↑xs.length : Int))) (.need ((0 : Int) ≤ e ∧ e < (↑xs.length : Int)) (.ite ((getT tPitch xs e).fst != k) (.leaf (.ret, ⟨[.view (I64.pair (I64.pair I64)) (xs)], [], [.int .i64 (k), .int .i64 ((-1 : Int)), .int .i64 (e)], []⟩)) (.need (inK IntKind.i64 (k + (1 : Int))) (.need ((0 : Int) ≤ e ∧ e < (↑xs.length : Int)) (.ite ((getT tPitch xs e).snd.fst != k + (1 : Int)) (.leaf (.ret, ⟨[.view (I64.pair (I64.pair I64)) (xs)], [], [.int .i64 (k + (1 : Int)), .int .i64 ((-1 : Int)), .int .i64 (e)], []⟩)) (.need (inK IntKind.i64 (k + (1 : Int) + (1 : Int))) (.need ((0 : Int) ≤ e ∧ e < (↑xs.length : Int)) (.ite ((getT tPitch xs e).snd.snd != k + (1 : Int) + (1 : Int)) (.leaf (.ret, ⟨[.view (I64.pair (I64.pair I64)) (xs)], [], [.int .i64 (k + (1 : Int) + (1 : Int)), .int .i64 ((-1 : Int)), .int .i64 (e)], []⟩)) (.need (inK IntKind.i64 (k + (1 : Int) + (1 : Int) + (1 : Int))) (.need (inK IntKind.i64 (e + (1 : Int))) (.leaf (.normal, ⟨[.view (I64.pair (I64.pair I64)) (xs)], [], [.int .i64 (k + (1 : Int) + (1 : Int) + (1 : Int)), .int .i64 (r), .int .i64 (e + (1 : Int))], []⟩)))))))))))) (.leaf ((.exit 0), ⟨[.view (I64.pair (I64.pair I64)) (xs)], [], [.int .i64 (k), .int .i64 (r), .int .i64 (e)], []⟩)) := by kernel_rfl
  rw [htree]
  clear htree
  replace hp : (0 ≤ e ∧ e ≤ (xs.length : Int)) ∧ xs.length ≤ 16777216 ∧ (0 ≤ k ∧ k ≤ 1000000000000 + 3 * e) := hp
  simp only [Tree.ok, tyd_inj, packAV, AV.same, AV.same.sameL, encV, encS, enc, inK, Nd.ok, List.headD_cons, List.cons_append, List.nil_append, List.append_nil, true_and, and_true, Bool.true_and, Bool.and_true, loop_next, weakBs_nil, weakBs_cons, weakB_self, weakB_row, weakB_int, weakL_nil, weakL_unk, weakL_guess, isRow_own, isRow_unk, weakL_int, weakL_bool, weakL_str, weakL_own, weakL_view, weakL_nilS, noRow_int, noRow_bool, own_inj, LTree.val, cond_true, cond_false, Prod.mk.injEq, List.cons.injEq, AV.int.injEq, AV.bool.injEq, AV.str.injEq, AV.agg.injEq, ann_heldPitchS_0, decide_eq_true_eq, decide_eq_false_iff_not, bne_iff_ne, ne_eq, bne_eq_false_iff_eq, getT]
  refine ⟨fun ha => ?_, fun ha => ?_⟩
  · have h1 : e.toNat < xs.length := by omega
    have h2 := rowHeld_step mkPitchV 3 xs e.toNat k tPitch.zero h1
    have h3 := mulN_step 3 xs.length e.toNat h1
    simp only [mkPitchV, Prod.ext_iff] at h2 ⊢
    rw [show (e + 1).toNat = e.toNat + 1 by omega]
    simp only [Int.add_assoc, Int.reduceAdd] at h2 ⊢
    replace h2 := (decide_eq_true_iff (p := _)).trans (h2.trans (and_congr_right fun _ => (decide_eq_true_iff (p := _)).symm))
    generalize decide (xs.drop e.toNat = rowMark mkPitchV 3 (xs.length - e.toNat) k) = bA at *
    generalize decide (xs.drop (e.toNat + 1) = rowMark mkPitchV 3 (xs.length - (e.toNat + 1)) (k + 3)) = bB at *
    generalize xs.getD e.toNat tPitch.zero = x at *
    cases bA <;> cases bB <;> simp only [Tree.ok, tyd_inj, packAV, AV.same, AV.same.sameL, encV, encS, enc, inK, Nd.ok, List.headD_cons, List.cons_append, List.nil_append, List.append_nil, true_and, and_true, Bool.true_and, Bool.and_true, loop_next, weakBs_nil, weakBs_cons, weakB_self, weakB_row, weakB_int, weakL_nil, weakL_unk, weakL_guess, isRow_own, isRow_unk, weakL_int, weakL_bool, weakL_str, weakL_own, weakL_view, weakL_nilS, noRow_int, noRow_bool, own_inj, LTree.val, cond_true, cond_false, Prod.mk.injEq, List.cons.injEq, AV.int.injEq, AV.bool.injEq, AV.str.injEq, AV.agg.injEq, Bool.false_eq_true, and_true, and_false, iff_false, iff_true, true_iff, false_iff, not_true, reduceCtorEq] at h2 ⊢
    all_goals
      repeat' first | apply And.intro | intro _
      all_goals first | omega | trivial | assumption | (simp_all [Tree.ok, tyd_inj, packAV, AV.same, AV.same.sameL, encV, encS, enc, inK, Nd.ok, List.headD_cons, List.cons_append, List.nil_append, List.append_nil, true_and, and_true, Bool.true_and, Bool.and_true, loop_next, weakBs_nil, weakBs_cons, weakB_self, weakB_row, weakB_int, weakL_nil, weakL_unk, weakL_guess, isRow_own, isRow_unk, weakL_int, weakL_bool, weakL_str, weakL_own, weakL_view, weakL_nilS, noRow_int, noRow_bool, own_inj, LTree.val, cond_true, cond_false, Prod.mk.injEq, List.cons.injEq, AV.int.injEq, AV.bool.injEq, AV.str.injEq, AV.agg.injEq]; done) | (simp_all [Tree.ok, tyd_inj, packAV, AV.same, AV.same.sameL, encV, encS, enc, inK, Nd.ok, List.headD_cons, List.cons_append, List.nil_append, List.append_nil, true_and, and_true, Bool.true_and, Bool.and_true, loop_next, weakBs_nil, weakBs_cons, weakB_self, weakB_row, weakB_int, weakL_nil, weakL_unk, weakL_guess, isRow_own, isRow_unk, weakL_int, weakL_bool, weakL_str, weakL_own, weakL_view, weakL_nilS, noRow_int, noRow_bool, own_inj, LTree.val, cond_true, cond_false, Prod.mk.injEq, List.cons.injEq, AV.int.injEq, AV.bool.injEq, AV.str.injEq, AV.agg.injEq]; omega) | grind
  · rw [show e.toNat = xs.length by omega]
    simp [Tree.ok, tyd_inj, packAV, AV.same, AV.same.sameL, encV, encS, enc, inK, Nd.ok, List.headD_cons, List.cons_append, List.nil_append, List.append_nil, true_and, and_true, Bool.true_and, Bool.and_true, loop_next, weakBs_nil, weakBs_cons, weakB_self, weakB_row, weakB_int, weakL_nil, weakL_unk, weakL_guess, isRow_own, isRow_unk, weakL_int, weakL_bool, weakL_str, weakL_own, weakL_view, weakL_nilS, noRow_int, noRow_bool, own_inj, LTree.val, cond_true, cond_false, Prod.mk.injEq, List.cons.injEq, AV.int.injEq, AV.bool.injEq, AV.str.injEq, AV.agg.injEq, rowMark]
theorem loops_heldPitchS : ∀ c, Try.f42.body = some c → LoopsOk Try.prog (addL (firstId (loopAt Try.f42 0)) ann_heldPitchS_0 noL) Try.f42.ntmps c := loopsN fun i hi ann h => by
  have hn : loopN Try.f42 = 1 := by kernel_rfl
  rw [hn] at hi
  exact match i, hi, h with
    | 0, _, h => (Option.some.inj ((show (addL (firstId (loopAt Try.f42 0)) ann_heldPitchS_0 noL) (firstId (loopAt Try.f42 0)) = some ann_heldPitchS_0 from by kernel_rfl).symm.trans h)) ▸ loop_heldPitchS_0
set_option maxHeartbeats 1000000 in
theorem sat_heldPitchS : Sat Try.prog 42 ct_heldPitchS := by
  refine sat_typed (C := C_Fk_4) (L := (addL (firstId (loopAt Try.f42 0)) ann_heldPitchS_0 noL)) (wr := false) mixedOk Try.func42 C_Fk_4_ok (loops_heldPitchS) (fun _ => by first | rfl | (simp [ownsOf, ownsOf.ownsL, enc, encV, encS])) fun x hp => ?_
  obtain ⟨(ys : List tPitch.den), (k : Int), _⟩ := x
  replace hp : ys.length ≤ 16777216 ∧ (0 ≤ k ∧ k ≤ 1000000000000) := hp
  have htree : exFunc Try.prog C_Fk_4 false (addL (firstId (loopAt Try.f42 0)) ann_heldPitchS_0 noL) Try.f42 (encA [.v qPitch, .v (.int .i64)] (ys, k, ())) = .need (((0 : Int) ≤ (0 : Int) ∧ (0 : Int) ≤ (↑ys.length : Int)) ∧ ys.length ≤ (16777216 : Nat) ∧ (0 : Int) ≤ k ∧ k ≤ (1000000000000 : Int) + (3 : Int) * (0 : Int)) (.ite (decide (List.drop (Int.toNat (0 : Int)) ys = rowMark mkPitchV (3 : Int) (ys.length - Int.toNat (0 : Int)) k)) (.leaf [.int .i64 (k + (3 : Int) * (↑(ys.length - Int.toNat (0 : Int)) : Int))]) (.leaf [.int .i64 ((-1 : Int))])) := by kernel_rfl
  refine (congrArg (Tree.ok _) htree).mpr ?_
  clear htree
  simp only [Tree.ok, tyd_inj, packAV, AV.same, AV.same.sameL, encV, encS, enc, inK, Nd.ok, List.headD_cons, List.cons_append, List.nil_append, List.append_nil, true_and, and_true, Bool.true_and, Bool.and_true, heldR, Int.toNat_zero, List.drop_zero, Nat.sub_zero, decide_eq_true_eq, decide_eq_false_iff_not]
  repeat' first | apply And.intro | intro _
  all_goals first | omega | trivial | assumption | (rename_i h; first | rw [if_pos h] | rw [if_neg h])
def C_Fk_5 : FuncId → Option Ct := addC 42 ct_heldPitchS C_Fk_4
theorem C_Fk_5_ok : COk Try.prog C_Fk_5 := addC_ok C_Fk_4_ok sat_heldPitchS

def C_Fk : FuncId → Option Ct := C_Fk_5
theorem C_Fk_ok : COk Try.prog C_Fk := C_Fk_5_ok
end Go.Proofs.Ytemlpimibhijoaa
