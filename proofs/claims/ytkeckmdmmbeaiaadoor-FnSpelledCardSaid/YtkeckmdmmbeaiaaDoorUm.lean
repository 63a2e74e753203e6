/- Contracts: rows of pitches that are compared, marked, and looked at again. Conditions: as each says. -/
import Derived.Test.YtkeckmdmmbeaiaaDoorPb
set_option linter.unusedSimpArgs false
set_option linter.unusedVariables false
namespace Go.Proofs.YtkeckmdmmbeaiaaDoor
open Go.RowKit Sx
set_option maxRecDepth 100000
set_option maxHeartbeats 1000000
def rowMark {α : Type} (f : Int → α) (s : Int) : Nat → Int → List α
  | 0, _ => []
  | n + 1, k => f k :: rowMark f s n (k + s)
theorem rowMark_length {α : Type} (f : Int → α) (s : Int) : ∀ (n : Nat) (k : Int), (rowMark f s n k).length = n
  | 0, _ => rfl
  | n + 1, k => by simp [rowMark, rowMark_length f s n]
theorem getD_set_self {α : Type} (l : List α) (i : Nat) (a z : α) (h : i < l.length) : (l.set i a).getD i z = a := by
  simp [List.getD, h]
theorem rowMark_step {α : Type} (f : Int → α) (s : Int) (xs : List α) (i : Nat) (k : Int) (h : i < xs.length) : (xs.set i (f k)).take (i + 1) ++ rowMark f s (xs.length - (i + 1)) (k + s) = xs.take i ++ rowMark f s (xs.length - i) k := by
  rw [show xs.length - i = (xs.length - (i + 1)) + 1 by omega, List.take_succ_eq_append_getElem (by simp; omega)]
  simp [rowMark, List.take_set]
  rw [List.set_eq_of_length_le (by simp; omega)]
theorem rowHeld_step {α : Type} (f : Int → α) (s : Int) (xs : List α) (i : Nat) (k : Int) (z : α) (h : i < xs.length) : xs.drop i = rowMark f s (xs.length - i) k ↔ xs.getD i z = f k ∧ xs.drop (i + 1) = rowMark f s (xs.length - (i + 1)) (k + s) := by
  rw [show xs.length - i = (xs.length - (i + 1)) + 1 by omega, List.drop_eq_getElem_cons h, getD_lt _ _ _ h]
  simp only [rowMark, List.cons.injEq]
theorem mulN_step (s : Int) (n i : Nat) (h : i < n) : s * ((n - i : Nat) : Int) = s + s * ((n - (i + 1) : Nat) : Int) := by
  rw [show ((n - i : Nat) : Int) = 1 + ((n - (i + 1) : Nat) : Int) by omega, Int.mul_add, Int.mul_one]
def heldR {α : Type} [DecidableEq α] (f : Int → α) (s : Int) (xs : List α) (k : Int) : Int := if xs = rowMark f s xs.length k then k + s * (xs.length : Int) else -1
def mkPitchV (k : Int) : tPitch.den := (k, k + 1, k + 2)
def ann_eqPitchS_0 : LAnn := { sameS := [0, 1], modS := [4, 5], sameH := [], modH := [], base := 900000, nilE := [], nilB := [], G := fun
  | ⟨[.view (.pair (.int .i64) (.pair (.int .i64) (.int .i64))) xs, .view (.pair (.int .i64) (.pair (.int .i64) (.int .i64))) ys], [], [.bool r, .int .i64 i], []⟩ => some (.p ((0 ≤ i ∧ i ≤ (xs.length : Int)) ∧ xs.length = ys.length ∧ (xs.length : Int) ≤ 9223372036854775807), .ite (decide (xs.drop i.toNat = ys.drop i.toNat)) (.leaf (.exit 0) [.bool r, .int .i64 (xs.length : Int)] []) (.leaf .ret [.bool false, .unk] []))
  | _ => none }
def ct_eqPitchS : Ct := ctOf [.v qPitch, .v qPitch] (fun ((xs : List tPitch.den), (ys : List tPitch.den), _) => .p ((xs.length : Int) ≤ 9223372036854775807)) (fun ((xs : List tPitch.den), (ys : List tPitch.den), _) => .bool (decide (xs = ys)))
set_option maxHeartbeats 1000000 in
theorem loop_eqPitchS_0 : LoopSat Tryd.prog Tryd.f33.ntmps (loopAt Tryd.f33 0) ann_eqPitchS_0 := by
  refine loopSat_of (C := C_Pb) (L := (addL (firstId (loopAt Tryd.f33 0)) ann_eqPitchS_0 noL)) (wr := false) mixedOk C_Pb_ok (loopsIn0 (by kernel_rfl)) (fun d => match d.same, d.vals with | [.view _ xs, _], [_, .int _ i] => ((xs.length : Int) - i).toNat | _, _ => 0) fun d p t hG hp => ?_
  simp only [ann_eqPitchS_0] at hG
  split at hG
  rotate_left
  · simp at hG
  rename_i xs ys r i
  simp only [Option.some.injEq, Prod.mk.injEq] at hG
  obtain ⟨rfl, rfl⟩ := hG
  have htree : exRound Tryd.prog C_Pb false (addL (firstId (loopAt Tryd.f33 0)) ann_eqPitchS_0 noL) Tryd.f33.ntmps ann_eqPitchS_0 (loopAt Tryd.f33 0) ⟨[.view tPitch xs, .view tPitch ys], [], [.bool r, .int .i64 i], []⟩ = .ite (decide (i < (↑xs.length : Int))) (.need ((0 : Int) ≤ i ∧ i < (↑xs.length : Int)) (.need ((0 : Int) ≤ i ∧ i < (↑ys.length : Int)) (.ite (!decide ((getT tPitch xs i).fst = (getT tPitch ys i).fst ∧ (getT tPitch xs i).snd.fst = (getT tPitch ys i).snd.fst ∧ (getT tPitch xs i).snd.snd = (getT tPitch ys i).snd.snd)) (.leaf (.ret, ⟨[.view (I64.pair (I64.pair I64)) (xs), .view (I64.pair (I64.pair I64)) (ys)], [], [.bool (false), .int .i64 (i)], []⟩)) (.need (inK IntKind.i64 (i + (1 : Int))) (.leaf (.normal, ⟨[.view (I64.pair (I64.pair I64)) (xs), .view (I64.pair (I64.pair I64)) (ys)], [], [.bool (r), .int .i64 (i + (1 : Int))], []⟩)))))) (.leaf ((.exit 0), ⟨[.view (I64.pair (I64.pair I64)) (xs), .view (I64.pair (I64.pair I64)) (ys)], [], [.bool (r), .int .i64 (i)], []⟩)) := by kernel_rfl
  rw [htree]
  clear htree
  replace hp : (0 ≤ i ∧ i ≤ (xs.length : Int)) ∧ xs.length = ys.length ∧ (xs.length : Int) ≤ 9223372036854775807 := hp
  simp only [Tree.ok, tyd_inj, packAV, AV.same, AV.same.sameL, encV, encS, enc, inK, Nd.ok, List.headD_cons, List.cons_append, List.nil_append, List.append_nil, true_and, and_true, Bool.true_and, Bool.and_true, loop_next, weakBs_nil, weakBs_cons, weakB_self, weakB_row, weakB_int, weakL_nil, weakL_unk, weakL_guess, isRow_own, isRow_unk, weakL_int, weakL_bool, weakL_str, weakL_own, weakL_view, weakL_nilS, noRow_int, noRow_bool, own_inj, LTree.val, cond_true, cond_false, Prod.mk.injEq, List.cons.injEq, AV.int.injEq, AV.bool.injEq, AV.str.injEq, AV.agg.injEq, ann_eqPitchS_0, decide_eq_true_eq, decide_eq_false_iff_not, bne_iff_ne, ne_eq, bne_eq_false_iff_eq, getT]
  refine ⟨fun ha => ?_, fun ha => ?_⟩
  · have h1 := drop_eq_iff xs ys i.toNat tPitch.zero (by omega) (by omega)
    simp only [Prod.ext_iff] at h1 ⊢
    rw [show (i + 1).toNat = i.toNat + 1 by omega]
    repeat' first | apply And.intro | intro _
    all_goals first
      | omega
      | (rw [decide_eq_false (show ¬ (xs.drop i.toNat = ys.drop i.toNat) by grind)]; simp [Tree.ok, tyd_inj, packAV, AV.same, AV.same.sameL, encV, encS, enc, inK, Nd.ok, List.headD_cons, List.cons_append, List.nil_append, List.append_nil, true_and, and_true, Bool.true_and, Bool.and_true, loop_next, weakBs_nil, weakBs_cons, weakB_self, weakB_row, weakB_int, weakL_nil, weakL_unk, weakL_guess, isRow_own, isRow_unk, weakL_int, weakL_bool, weakL_str, weakL_own, weakL_view, weakL_nilS, noRow_int, noRow_bool, own_inj, LTree.val, cond_true, cond_false, Prod.mk.injEq, List.cons.injEq, AV.int.injEq, AV.bool.injEq, AV.str.injEq, AV.agg.injEq]; done)
      | rw [show decide (xs.drop i.toNat = ys.drop i.toNat) = decide (xs.drop (i.toNat + 1) = ys.drop (i.toNat + 1)) by grind]
  · have h1 : i.toNat = xs.length := by omega
    have h2 : xs.length = ys.length := by omega
    rw [h1, decide_eq_true (show xs.drop xs.length = ys.drop xs.length by rw [List.drop_length, h2, List.drop_length])]
    simp [Tree.ok, tyd_inj, packAV, AV.same, AV.same.sameL, encV, encS, enc, inK, Nd.ok, List.headD_cons, List.cons_append, List.nil_append, List.append_nil, true_and, and_true, Bool.true_and, Bool.and_true, loop_next, weakBs_nil, weakBs_cons, weakB_self, weakB_row, weakB_int, weakL_nil, weakL_unk, weakL_guess, isRow_own, isRow_unk, weakL_int, weakL_bool, weakL_str, weakL_own, weakL_view, weakL_nilS, noRow_int, noRow_bool, own_inj, LTree.val, cond_true, cond_false, Prod.mk.injEq, List.cons.injEq, AV.int.injEq, AV.bool.injEq, AV.str.injEq, AV.agg.injEq]
    omega
theorem loops_eqPitchS : ∀ c, Tryd.f33.body = some c → LoopsOk Tryd.prog (addL (firstId (loopAt Tryd.f33 0)) ann_eqPitchS_0 noL) Tryd.f33.ntmps c := loopsN fun i hi ann h => by
  have hn : loopN Tryd.f33 = 1 := by kernel_rfl
  rw [hn] at hi
  exact match i, hi, h with
    | 0, _, h => (Option.some.inj ((show (addL (firstId (loopAt Tryd.f33 0)) ann_eqPitchS_0 noL) (firstId (loopAt Tryd.f33 0)) = some ann_eqPitchS_0 from by kernel_rfl).symm.trans h)) ▸ loop_eqPitchS_0
set_option maxHeartbeats 1000000 in
theorem sat_eqPitchS : Sat Tryd.prog 33 ct_eqPitchS := by
  refine sat_typed (C := C_Pb) (L := (addL (firstId (loopAt Tryd.f33 0)) ann_eqPitchS_0 noL)) (wr := false) mixedOk Tryd.func33 C_Pb_ok (loops_eqPitchS) (fun _ => by first | rfl | (simp [ownsOf, ownsOf.ownsL, enc, encV, encS])) fun x hp => ?_
  obtain ⟨(xs : List tPitch.den), (ys : List tPitch.den), _⟩ := x
  replace hp : (xs.length : Int) ≤ 9223372036854775807 := hp
  have htree : exFunc Tryd.prog C_Pb false (addL (firstId (loopAt Tryd.f33 0)) ann_eqPitchS_0 noL) Tryd.f33 (encA [.v qPitch, .v qPitch] (xs, ys, ())) = .ite ((↑xs.length : Int) != (↑ys.length : Int)) (.leaf [.lit false]) (.need (((0 : Int) ≤ (0 : Int) ∧ (0 : Int) ≤ (↑xs.length : Int)) ∧ xs.length = ys.length ∧ (↑xs.length : Int) ≤ (9223372036854775807 : Int)) (.ite (decide (List.drop (Int.toNat (0 : Int)) xs = List.drop (Int.toNat (0 : Int)) ys)) (.leaf [.lit true]) (.leaf [.bool (false)]))) := by kernel_rfl
  refine (congrArg (Tree.ok _) htree).mpr ?_
  clear htree
  simp only [Tree.ok, tyd_inj, packAV, AV.same, AV.same.sameL, encV, encS, enc, inK, Nd.ok, List.headD_cons, List.cons_append, List.nil_append, List.append_nil, true_and, and_true, Bool.true_and, Bool.and_true, Int.toNat_zero, List.drop_zero, decide_eq_true_eq, decide_eq_false_iff_not, bne_iff_ne, ne_eq, bne_eq_false_iff_eq]
  repeat' first | apply And.intro | intro _
  all_goals grind
def C_Um_1 : FuncId → Option Ct := addC 33 ct_eqPitchS C_Pb
theorem C_Um_1_ok : COk Tryd.prog C_Um_1 := addC_ok C_Pb_ok sat_eqPitchS
def ann_markPitchS_0 : LAnn := { sameS := [0], modS := [1, 5], sameH := [], modH := [700000], base := 900000, nilE := [], nilB := [], G := fun
  | ⟨[.row 700000], [], [.int .i64 k, .int .i64 e], [[.agg [.own (.pair (.int .i64) (.pair (.int .i64) (.int .i64))) xs]]]⟩ => some (.p ((0 ≤ e ∧ e ≤ (xs.length : Int)) ∧ xs.length ≤ 16777216 ∧ (0 ≤ k ∧ k ≤ 1000000000000 + 3 * e)), .leaf (.exit 0) [.int .i64 (k + 3 * ((xs.length - e.toNat : Nat) : Int)), .unk] [[.agg [.own tPitch (xs.take e.toNat ++ rowMark mkPitchV 3 (xs.length - e.toNat) k)]]])
  | _ => none }
def ct_markPitchS : Ct := ctOfW [.ov qPitch, .v (.int .i64)] (fun ((ys : List tPitch.den), (k : Int), _) => .p (ys.length ≤ 16777216 ∧ (0 ≤ k ∧ k ≤ 1000000000000))) (fun ((ys : List tPitch.den), (k : Int), _) => .int .i64 (k + 3 * (ys.length : Int))) (fun ((ys : List tPitch.den), (k : Int), _) => ⟨tPitch, rowMark mkPitchV 3 ys.length k⟩)
set_option maxHeartbeats 1000000 in
theorem loop_markPitchS_0 : LoopSat Tryd.prog Tryd.f34.ntmps (loopAt Tryd.f34 0) ann_markPitchS_0 := by
  refine loopSat_of (C := C_Um_1) (L := (addL (firstId (loopAt Tryd.f34 0)) ann_markPitchS_0 noL)) (wr := false) mixedOk C_Um_1_ok (loopsIn0 (by kernel_rfl)) (fun d => match d.vals, d.boxes with | [_, .int _ e], [[.agg [.own _ xs]]] => ((xs.length : Int) - e).toNat | _, _ => 0) fun d p t hG hp => ?_
  simp only [ann_markPitchS_0] at hG
  split at hG
  rotate_left
  · simp at hG
  rename_i k e xs
  simp only [Option.some.injEq, Prod.mk.injEq] at hG
  obtain ⟨rfl, rfl⟩ := hG
  have htree : exRound Tryd.prog C_Um_1 false (addL (firstId (loopAt Tryd.f34 0)) ann_markPitchS_0 noL) Tryd.f34.ntmps ann_markPitchS_0 (loopAt Tryd.f34 0) ⟨[.row 700000], [], [.int .i64 k, .int .i64 e], [[.agg [.own tPitch xs]]]⟩ = .ite (decide (e < (↑xs.length : Int))) (.need ((0 : Int) ≤ e ∧ e < (↑xs.length : Int)) (.need (e.toNat < xs.length) (.need (inK IntKind.i64 (k + (1 : Int))) (.need ((0 : Int) ≤ e ∧ e < (↑(setC tPitch xs e.toNat (0 : Nat) [AV.int IntKind.i64 k]).length : Int)) (.need (e.toNat < (setC tPitch xs e.toNat (0 : Nat) [AV.int IntKind.i64 k]).length) (.need (inK IntKind.i64 (k + (1 : Int) + (1 : Int))) (.need ((0 : Int) ≤ e ∧ e < (↑(setC tPitch (setC tPitch xs e.toNat (0 : Nat) [AV.int IntKind.i64 k]) e.toNat (1 : Nat) [AV.int IntKind.i64 (k + (1 : Int))]).length : Int)) (.need (e.toNat < (setC tPitch (setC tPitch xs e.toNat (0 : Nat) [AV.int IntKind.i64 k]) e.toNat (1 : Nat) [AV.int IntKind.i64 (k + (1 : Int))]).length) (.need (inK IntKind.i64 (k + (1 : Int) + (1 : Int) + (1 : Int))) (.need (inK IntKind.i64 (e + (1 : Int))) (.leaf (.normal, ⟨[.row 700000], [], [.int .i64 (k + (1 : Int) + (1 : Int) + (1 : Int)), .int .i64 (e + (1 : Int))], [[.agg [.own (I64.pair (I64.pair I64)) (setC tPitch (setC tPitch (setC tPitch xs e.toNat (0 : Nat) [AV.int IntKind.i64 k]) e.toNat (1 : Nat) [AV.int IntKind.i64 (k + (1 : Int))]) e.toNat (2 : Nat) [AV.int IntKind.i64 (k + (1 : Int) + (1 : Int))])]]]⟩)))))))))))) (.leaf ((.exit 0), ⟨[.row 700000], [], [.int .i64 (k), .int .i64 (e)], [[.agg [.own (I64.pair (I64.pair I64)) (xs)]]]⟩)) := by kernel_rfl
  rw [htree]
  clear htree
  replace hp : (0 ≤ e ∧ e ≤ (xs.length : Int)) ∧ xs.length ≤ 16777216 ∧ (0 ≤ k ∧ k ≤ 1000000000000 + 3 * e) := hp
  simp only [Tree.ok, tyd_inj, packAV, AV.same, AV.same.sameL, encV, encS, enc, inK, Nd.ok, List.headD_cons, List.cons_append, List.nil_append, List.append_nil, true_and, and_true, Bool.true_and, Bool.and_true, loop_next, weakBs_nil, weakBs_cons, weakB_self, weakB_row, weakB_int, weakL_nil, weakL_unk, weakL_guess, isRow_own, isRow_unk, weakL_int, weakL_bool, weakL_str, weakL_own, weakL_view, weakL_nilS, noRow_int, noRow_bool, own_inj, LTree.val, cond_true, cond_false, Prod.mk.injEq, List.cons.injEq, AV.int.injEq, AV.bool.injEq, AV.str.injEq, AV.agg.injEq, ann_markPitchS_0, decide_eq_true_eq, decide_eq_false_iff_not]
  refine ⟨fun ha => ?_, fun ha => ?_⟩
  · have h1 : e.toNat < xs.length := by omega
    have hs : ∀ (l : List tPitch.den) (a z : tPitch.den), e.toNat < l.length → (l.set e.toNat a).getD e.toNat z = a := fun l a z h => getD_set_self l _ a z h
    simp only [setC, hs _ _ _, List.length_set, h1, List.set_set]
    have h2 := rowMark_step mkPitchV 3 xs e.toNat k h1
    have h3 := mulN_step 3 xs.length e.toNat h1
    simp only [mkPitchV] at h2
    rw [show (e + 1).toNat = e.toNat + 1 by omega]
    simp only [Int.add_assoc, Int.reduceAdd] at h2 ⊢
    repeat' first | apply And.intro | intro _
    all_goals first | exact h2 | omega | trivial | rfl | assumption
  · rw [show e.toNat = xs.length by omega]
    simp [rowMark]
theorem loops_markPitchS : ∀ c, Tryd.f34.body = some c → LoopsOk Tryd.prog (addL (firstId (loopAt Tryd.f34 0)) ann_markPitchS_0 noL) Tryd.f34.ntmps c := loopsN fun i hi ann h => by
  have hn : loopN Tryd.f34 = 1 := by kernel_rfl
  rw [hn] at hi
  exact match i, hi, h with
    | 0, _, h => (Option.some.inj ((show (addL (firstId (loopAt Tryd.f34 0)) ann_markPitchS_0 noL) (firstId (loopAt Tryd.f34 0)) = some ann_markPitchS_0 from by kernel_rfl).symm.trans h)) ▸ loop_markPitchS_0
set_option maxHeartbeats 1000000 in
theorem sat_markPitchS : Sat Tryd.prog 34 ct_markPitchS := by
  refine sat_typedW (C := C_Um_1) (L := (addL (firstId (loopAt Tryd.f34 0)) ann_markPitchS_0 noL)) (wr := false) mixedOk Tryd.func34 C_Um_1_ok (loops_markPitchS) (fun _ => rfl) fun x hp => ?_
  obtain ⟨(ys : List tPitch.den), (k : Int), _⟩ := x
  replace hp : ys.length ≤ 16777216 ∧ (0 ≤ k ∧ k ≤ 1000000000000) := hp
  have htree : exFuncW Tryd.prog C_Um_1 false (addL (firstId (loopAt Tryd.f34 0)) ann_markPitchS_0 noL) Tryd.f34 true (rowed.rowedL BR (encA [.ov qPitch, .v (.int .i64)] (ys, k, ()))) ⟨tPitch, ys⟩ = .need (((0 : Int) ≤ (0 : Int) ∧ (0 : Int) ≤ (↑ys.length : Int)) ∧ ys.length ≤ (16777216 : Nat) ∧ (0 : Int) ≤ k ∧ k ≤ (1000000000000 : Int) + (3 : Int) * (0 : Int)) (.leaf ([.int .i64 (k + (3 : Int) * (↑(ys.length - Int.toNat (0 : Int)) : Int))], some ⟨I64.pair (I64.pair I64), List.take (Int.toNat (0 : Int)) ys ++ rowMark mkPitchV (3 : Int) (ys.length - Int.toNat (0 : Int)) k⟩)) := by kernel_rfl
  refine (congrArg (Tree.ok _) htree).mpr ?_
  clear htree
  simp only [Tree.ok, tyd_inj, packAV, AV.same, AV.same.sameL, encV, encS, enc, inK, Nd.ok, List.headD_cons, List.cons_append, List.nil_append, List.append_nil, true_and, and_true, Bool.true_and, Bool.and_true, ownA, encA, encSh, encO, List.headD_cons, ownsOf.ownsL, ownsOf, Int.toNat_zero, List.take_zero, Nat.sub_zero]
  repeat' first | apply And.intro | intro _
  all_goals first | omega | trivial | rfl | assumption
def C_Um_2 : FuncId → Option Ct := addC 34 ct_markPitchS C_Um_1
theorem C_Um_2_ok : COk Tryd.prog C_Um_2 := addC_ok C_Um_1_ok sat_markPitchS
def ann_heldPitchS_0 : LAnn := { sameS := [0], modS := [1, 4, 5], sameH := [], modH := [], base := 900000, nilE := [], nilB := [], G := fun
  | ⟨[.view (.pair (.int .i64) (.pair (.int .i64) (.int .i64))) xs], [], [.int .i64 k, .int .i64 r, .int .i64 e], []⟩ => some (.p ((0 ≤ e ∧ e ≤ (xs.length : Int)) ∧ xs.length ≤ 16777216 ∧ (0 ≤ k ∧ k ≤ 1000000000000 + 3 * e)), .ite (decide (xs.drop e.toNat = rowMark mkPitchV 3 (xs.length - e.toNat) k)) (.leaf (.exit 0) [.int .i64 (k + 3 * ((xs.length - e.toNat : Nat) : Int)), .unk, .unk] []) (.leaf .ret [.unk, .int .i64 (-1), .unk] []))
  | _ => none }
def ct_heldPitchS : Ct := ctOf [.v qPitch, .v (.int .i64)] (fun ((ys : List tPitch.den), (k : Int), _) => .p (ys.length ≤ 16777216 ∧ (0 ≤ k ∧ k ≤ 1000000000000))) (fun ((ys : List tPitch.den), (k : Int), _) => .int .i64 (heldR mkPitchV 3 ys k))
set_option maxHeartbeats 1000000 in
theorem loop_heldPitchS_0 : LoopSat Tryd.prog Tryd.f35.ntmps (loopAt Tryd.f35 0) ann_heldPitchS_0 := by
  refine loopSat_of (C := C_Um_2) (L := (addL (firstId (loopAt Tryd.f35 0)) ann_heldPitchS_0 noL)) (wr := false) mixedOk C_Um_2_ok (loopsIn0 (by kernel_rfl)) (fun d => match d.same, d.vals with | [.view _ xs], [_, _, .int _ e] => ((xs.length : Int) - e).toNat | _, _ => 0) fun d p t hG hp => ?_
  simp only [ann_heldPitchS_0] at hG
  split at hG
  rotate_left
  · simp at hG
  rename_i xs k r e
  simp only [Option.some.injEq, Prod.mk.injEq] at hG
  obtain ⟨rfl, rfl⟩ := hG
  have htree : exRound Tryd.prog C_Um_2 false (addL (firstId (loopAt Tryd.f35 0)) ann_heldPitchS_0 noL) Tryd.f35.ntmps ann_heldPitchS_0 (loopAt Tryd.f35 0) ⟨[.view tPitch xs], [], [.int .i64 k, .int .i64 r, .int .i64 e], []⟩ = .ite (decide (e < (↑xs.length : Int))) (.need ((0 : Int) ≤ e ∧ e < (↑xs.length : Int)) (.ite ((getT tPitch xs e).fst != k) (.leaf (.ret, ⟨[.view (I64.pair (I64.pair I64)) (xs)], [], [.int .i64 (k), .int .i64 ((-1 : Int)), .int .i64 (e)], []⟩)) (.need (inK IntKind.i64 (k + (1 : Int))) (.need ((0 : Int) ≤ e ∧ e < (↑xs.length : Int)) (.ite ((getT tPitch xs e).snd.fst != k + (1 : Int)) (.leaf (.ret, ⟨[.view (I64.pair (I64.pair I64)) (xs)], [], [.int .i64 (k + (1 : Int)), .int .i64 ((-1 : Int)), .int .i64 (e)], []⟩)) (.need (inK IntKind.i64 (k + (1 : Int) + (1 : Int))) (.need ((0 : Int) ≤ e ∧ e < (↑xs.length : Int)) (.ite ((getT tPitch xs e).snd.snd != k + (1 : Int) + (1 : Int)) (.leaf (.ret, ⟨[.view (I64.pair (I64.pair I64)) (xs)], [], [.int .i64 (k + (1 : Int) + (1 : Int)), .int .i64 ((-1 : Int)), .int .i64 (e)], []⟩)) (.need (inK IntKind.i64 (k + (1 : Int) + (1 : Int) + (1 : Int))) (.need (inK IntKind.i64 (e + (1 : Int))) (.leaf (.normal, ⟨[.view (I64.pair (I64.pair I64)) (xs)], [], [.int .i64 (k + (1 : Int) + (1 : Int) + (1 : Int)), .int .i64 (r), .int .i64 (e + (1 : Int))], []⟩)))))))))))) (.leaf ((.exit 0), ⟨[.view (I64.pair (I64.pair I64)) (xs)], [], [.int .i64 (k), .int .i64 (r), .int .i64 (e)], []⟩)) := by kernel_rfl
  rw [htree]
  clear htree
  replace hp : (0 ≤ e ∧ e ≤ (xs.length : Int)) ∧ xs.length ≤ 16777216 ∧ (0 ≤ k ∧ k ≤ 1000000000000 + 3 * e) := hp
  simp only [Tree.ok, tyd_inj, packAV, AV.same, AV.same.sameL, encV, encS, enc, inK, Nd.ok, List.headD_cons, List.cons_append, List.nil_append, List.append_nil, true_and, and_true, Bool.true_and, Bool.and_true, loop_next, weakBs_nil, weakBs_cons, weakB_self, weakB_row, weakB_int, weakL_nil, weakL_unk, weakL_guess, isRow_own, isRow_unk, weakL_int, weakL_bool, weakL_str, weakL_own, weakL_view, weakL_nilS, noRow_int, noRow_bool, own_inj, LTree.val, cond_true, cond_false, Prod.mk.injEq, List.cons.injEq, AV.int.injEq, AV.bool.injEq, AV.str.injEq, AV.agg.injEq, ann_heldPitchS_0, decide_eq_true_eq, decide_eq_false_iff_not, bne_iff_ne, ne_eq, bne_eq_false_iff_eq, getT]
  refine ⟨fun ha => ?_, fun ha => ?_⟩
  · have h1 : e.toNat < xs.length := by omega
    have h2 := rowHeld_step mkPitchV 3 xs e.toNat k tPitch.zero h1
    have h3 := mulN_step 3 xs.length e.toNat h1
    simp only [mkPitchV, Prod.ext_iff] at h2 ⊢
    rw [show (e + 1).toNat = e.toNat + 1 by omega]
    simp only [Int.add_assoc, Int.reduceAdd] at h2 ⊢
    replace h2 := (decide_eq_true_iff (p := _)).trans (h2.trans (and_congr_right fun _ => (decide_eq_true_iff (p := _)).symm))
    generalize decide (xs.drop e.toNat = rowMark mkPitchV 3 (xs.length - e.toNat) k) = bA at *
    generalize decide (xs.drop (e.toNat + 1) = rowMark mkPitchV 3 (xs.length - (e.toNat + 1)) (k + 3)) = bB at *
    generalize xs.getD e.toNat tPitch.zero = x at *
    cases bA <;> cases bB <;> simp only [Tree.ok, tyd_inj, packAV, AV.same, AV.same.sameL, encV, encS, enc, inK, Nd.ok, List.headD_cons, List.cons_append, List.nil_append, List.append_nil, true_and, and_true, Bool.true_and, Bool.and_true, loop_next, weakBs_nil, weakBs_cons, weakB_self, weakB_row, weakB_int, weakL_nil, weakL_unk, weakL_guess, isRow_own, isRow_unk, weakL_int, weakL_bool, weakL_str, weakL_own, weakL_view, weakL_nilS, noRow_int, noRow_bool, own_inj, LTree.val, cond_true, cond_false, Prod.mk.injEq, List.cons.injEq, AV.int.injEq, AV.bool.injEq, AV.str.injEq, AV.agg.injEq, Bool.false_eq_true, and_true, and_false, iff_false, iff_true, true_iff, false_iff, not_true, reduceCtorEq] at h2 ⊢
    all_goals
      repeat' first | apply And.intro | intro _
      all_goals first | omega | trivial | assumption | (simp_all [Tree.ok, tyd_inj, packAV, AV.same, AV.same.sameL, encV, encS, enc, inK, Nd.ok, List.headD_cons, List.cons_append, List.nil_append, List.append_nil, true_and, and_true, Bool.true_and, Bool.and_true, loop_next, weakBs_nil, weakBs_cons, weakB_self, weakB_row, weakB_int, weakL_nil, weakL_unk, weakL_guess, isRow_own, isRow_unk, weakL_int, weakL_bool, weakL_str, weakL_own, weakL_view, weakL_nilS, noRow_int, noRow_bool, own_inj, LTree.val, cond_true, cond_false, Prod.mk.injEq, List.cons.injEq, AV.int.injEq, AV.bool.injEq, AV.str.injEq, AV.agg.injEq]; done) | (simp_all [Tree.ok, tyd_inj, packAV, AV.same, AV.same.sameL, encV, encS, enc, inK, Nd.ok, List.headD_cons, List.cons_append, List.nil_append, List.append_nil, true_and, and_true, Bool.true_and, Bool.and_true, loop_next, weakBs_nil, weakBs_cons, weakB_self, weakB_row, weakB_int, weakL_nil, weakL_unk, weakL_guess, isRow_own, isRow_unk, weakL_int, weakL_bool, weakL_str, weakL_own, weakL_view, weakL_nilS, noRow_int, noRow_bool, own_inj, LTree.val, cond_true, cond_false, Prod.mk.injEq, List.cons.injEq, AV.int.injEq, AV.bool.injEq, AV.str.injEq, AV.agg.injEq]; omega) | grind
  · rw [show e.toNat = xs.length by omega]
    simp [Tree.ok, tyd_inj, packAV, AV.same, AV.same.sameL, encV, encS, enc, inK, Nd.ok, List.headD_cons, List.cons_append, List.nil_append, List.append_nil, true_and, and_true, Bool.true_and, Bool.and_true, loop_next, weakBs_nil, weakBs_cons, weakB_self, weakB_row, weakB_int, weakL_nil, weakL_unk, weakL_guess, isRow_own, isRow_unk, weakL_int, weakL_bool, weakL_str, weakL_own, weakL_view, weakL_nilS, noRow_int, noRow_bool, own_inj, LTree.val, cond_true, cond_false, Prod.mk.injEq, List.cons.injEq, AV.int.injEq, AV.bool.injEq, AV.str.injEq, AV.agg.injEq, rowMark]
theorem loops_heldPitchS : ∀ c, Tryd.f35.body = some c → LoopsOk Tryd.prog (addL (firstId (loopAt Tryd.f35 0)) ann_heldPitchS_0 noL) Tryd.f35.ntmps c := loopsN fun i hi ann h => by
  have hn : loopN Tryd.f35 = 1 := by kernel_rfl
  rw [hn] at hi
  exact match i, hi, h with
    | 0, _, h => (Option.some.inj ((show (addL (firstId (loopAt Tryd.f35 0)) ann_heldPitchS_0 noL) (firstId (loopAt Tryd.f35 0)) = some ann_heldPitchS_0 from by kernel_rfl).symm.trans h)) ▸ loop_heldPitchS_0
set_option maxHeartbeats 1000000 in
theorem sat_heldPitchS : Sat Tryd.prog 35 ct_heldPitchS := by
  refine sat_typed (C := C_Um_2) (L := (addL (firstId (loopAt Tryd.f35 0)) ann_heldPitchS_0 noL)) (wr := false) mixedOk Tryd.func35 C_Um_2_ok (loops_heldPitchS) (fun _ => by first | rfl | (simp [ownsOf, ownsOf.ownsL, enc, encV, encS])) fun x hp => ?_
  obtain ⟨(ys : List tPitch.den), (k : Int), _⟩ := x
  replace hp : ys.length ≤ 16777216 ∧ (0 ≤ k ∧ k ≤ 1000000000000) := hp
  have htree : exFunc Tryd.prog C_Um_2 false (addL (firstId (loopAt Tryd.f35 0)) ann_heldPitchS_0 noL) Tryd.f35 (encA [.v qPitch, .v (.int .i64)] (ys, k, ())) = .need (((0 : Int) ≤ (0 : Int) ∧ (0 : Int) ≤ (↑ys.length : Int)) ∧ ys.length ≤ (16777216 : Nat) ∧ (0 : Int) ≤ k ∧ k ≤ (1000000000000 : Int) + (3 : Int) * (0 : Int)) (.ite (decide (List.drop (Int.toNat (0 : Int)) ys = rowMark mkPitchV (3 : Int) (ys.length - Int.toNat (0 : Int)) k)) (.leaf [.int .i64 (k + (3 : Int) * (↑(ys.length - Int.toNat (0 : Int)) : Int))]) (.leaf [.int .i64 ((-1 : Int))])) := by kernel_rfl
  refine (congrArg (Tree.ok _) htree).mpr ?_
  clear htree
  simp only [Tree.ok, tyd_inj, packAV, AV.same, AV.same.sameL, encV, encS, enc, inK, Nd.ok, List.headD_cons, List.cons_append, List.nil_append, List.append_nil, true_and, and_true, Bool.true_and, Bool.and_true, heldR, Int.toNat_zero, List.drop_zero, Nat.sub_zero, decide_eq_true_eq, decide_eq_false_iff_not]
  repeat' first | apply And.intro | intro _
  all_goals first | omega | trivial | assumption | (rename_i h; first | rw [if_pos h] | rw [if_neg h])
def C_Um_3 : FuncId → Option Ct := addC 35 ct_heldPitchS C_Um_2
theorem C_Um_3_ok : COk Tryd.prog C_Um_3 := addC_ok C_Um_2_ok sat_heldPitchS
theorem heldR_mark {α : Type} [DecidableEq α] (f : Int → α) (s : Int) (n : Nat) (k : Int) : heldR f s (rowMark f s n k) k = k + s * (n : Int) := by
  simp [heldR, rowMark_length]

def C_Um : FuncId → Option Ct := C_Um_3
theorem C_Um_ok : COk Tryd.prog C_Um := C_Um_3_ok
end Go.Proofs.YtkeckmdmmbeaiaaDoor
