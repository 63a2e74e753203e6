/- Contracts: the end of a score, of the program and the reference. Conditions: as each says. -/
import Derived.Test.YtjgjcggecikdpaaFe
set_option linter.unusedSimpArgs false
set_option linter.unusedVariables false
namespace Go.Proofs.Ytjgjcggecikdpaa
open Go.RowKit Sx
set_option maxRecDepth 100000
set_option maxHeartbeats 1000000
def fracBd (e : Int × Int) : Prop := (1 ≤ e.2 ∧ e.2 ≤ 1000000) ∧ (-1000000000 ≤ e.1 ∧ e.1 ≤ 1000000000)
theorem mkF_bd {n d : Int} (hd : d ≠ 0) (h : (mkF n d).2 = 0) : fracBd (mkF n d).1 := by
  rw [mkF_pos n d hd] at h ⊢
  have g1 := gcd_pos (n := n) hd
  have b1 := div_bd (n.natAbs : Int) _ (by omega) g1
  have hle : (Int.gcd n d : Int) ≤ (d.natAbs : Int) := by
    have : Int.gcd n d ≤ d.natAbs := Nat.le_of_dvd (by omega) (Nat.gcd_dvd_right _ _)
    omega
  have b2 : 1 ≤ (d.natAbs : Int) / (Int.gcd n d : Int) := by
    have := Int.ediv_le_ediv (by omega : (0 : Int) < (Int.gcd n d : Int)) hle
    rwa [Int.ediv_self (by omega)] at this
  generalize (n.natAbs : Int) / (Int.gcd n d : Int) = q1 at *
  generalize (d.natAbs : Int) / (Int.gcd n d : Int) = q2 at *
  split at h
  · simp at h
  · rename_i hc
    rw [if_neg hc]
    unfold fracBd
    refine ⟨by simp only; omega, ?_⟩
    simp only
    split <;> omega
def endN (x : tNote.den) : Int × Int := (addF x.1.1 x.1.2 x.2.1.1 x.2.1.2).1
theorem endN_bd {x : tNote.den} (h : noteF x = true) : fracBd (endN x) := by
  simp only [noteF, beatF, Bool.and_eq_true, decide_eq_true_eq] at h
  have h1 := okF_bd h.1.1
  have h2 := okF_bd h.2.1.1
  have h3 := h.2.2.2.1
  have h4 := mul_bd2 h1.1 h2.1
  unfold endN
  unfold addF opF at h3 ⊢
  rw [if_pos (by rw [h.1.1, h.2.1.1]; rfl)] at h3 ⊢
  exact mkF_bd (by omega) h3
def endStep (x : tNote.den) (e : Int × Int) : Int × Int := if 0 < cmpF (endN x).1 (endN x).2 e.1 e.2 then endN x else e
def endGo (xs : List tNote.den) : Nat → Nat → Int × Int → Int × Int
  | 0, _, e => e
  | n + 1, i, e => endGo xs n (i + 1) (endStep (xs.getD i tNote.zero) e)
theorem endGo_go (xs : List tNote.den) (i : Nat) (e : Int × Int) (h : i < xs.length) : endGo xs (xs.length - i) i e = endGo xs (xs.length - (i + 1)) (i + 1) (endStep (xs.getD i tNote.zero) e) := by
  rw [show xs.length - i = (xs.length - (i + 1)) + 1 by omega]; rfl
def endF (xs : List tNote.den) : Int × Int := endGo xs xs.length 0 (0, 1)
def endS (xs : List tNote.den) : (Int × Int) × Int := if scoreF xs = true then (endF xs, 0) else ((0, 0), 1)
theorem score_notes {xs : List tNote.den} (h : scoreF xs = true) : xs.length ≤ 60 ∧ notesF xs = true := by
  have hb := both_all xs
  simp only [scoreF, hb, Bool.and_eq_true, decide_eq_true_eq] at h
  exact ⟨h.1, h.2.1⟩
def ct_noteEnd : Ct := ctOf [.s tNote] (fun _ => .tt) (fun ((x : tNote.den), _) => .agg (enc tFrac (endN x)))
set_option maxHeartbeats 1000000 in
theorem sat_noteEnd : Sat Try.prog 81 ct_noteEnd := by
  refine sat_typed (C := C_Fe) (L := noL) (wr := false) mixedOk Try.func81 C_Fe_ok (loops0 (by kernel_rfl)) (fun _ => by first | rfl | (simp [ownsOf, ownsOf.ownsL, enc, encV, encS])) fun x hp => ?_
  obtain ⟨(x : tNote.den), _⟩ := x
  clear hp
  have htree : exFunc Try.prog C_Fe false noL Try.f81 (encA [.s tNote] (x, ())) = .leaf [.agg [.int .i64 ((addF x.fst.fst x.fst.snd x.snd.fst.fst x.snd.fst.snd).fst.fst), .int .i64 ((addF x.fst.fst x.fst.snd x.snd.fst.fst x.snd.fst.snd).fst.snd)]] := by kernel_rfl
  refine (congrArg (Tree.ok _) htree).mpr ?_
  clear htree
  simp [Tree.ok, tyd_inj, packAV, AV.same, AV.same.sameL, encV, encS, enc, inK, Nd.ok, List.headD_cons, List.cons_append, List.nil_append, List.append_nil, true_and, and_true, Bool.true_and, Bool.and_true, endN]
def C_Ff_1 : FuncId → Option Ct := addC 81 ct_noteEnd C_Fe
theorem C_Ff_1_ok : COk Try.prog C_Ff_1 := addC_ok C_Fe_ok sat_noteEnd
def ann_endOfScore_0 : LAnn := { sameS := [1, 2, 8, 9, 3], modS := [10], sameH := [1, 2], modH := [3], base := 900000, nilE := [], nilB := [], G := fun
  | ⟨[.ptr 1 0, .ptr 2 0, .view (.pair (.pair (.int .i64) (.int .i64)) (.pair (.pair (.int .i64) (.int .i64)) (.pair (.int .i64) (.pair (.int .i64) (.int .i64))))) xs, .int .i64 n, .ptr 3 0], [.box [.view (.pair (.pair (.int .i64) (.int .i64)) (.pair (.pair (.int .i64) (.int .i64)) (.pair (.int .i64) (.pair (.int .i64) (.int .i64))))) zs], .box [.int .i64 z1, .int .i64 z2]], [.int .i64 i], [[.int .i64 a, .int .i64 b]]⟩ => some (.p ((0 ≤ i ∧ i ≤ n) ∧ n = (xs.length : Int) ∧ (xs.length ≤ 60 ∧ notesF xs = true) ∧ fracBd (a, b)), .leaf (.exit 0) [.int .i64 n] [[.int .i64 (endGo xs (xs.length - i.toNat) i.toNat (a, b)).1, .int .i64 (endGo xs (xs.length - i.toNat) i.toNat (a, b)).2]])
  | _ => none }
def ct_endOfScore : Ct := ctOf [.s qNote] (fun ((xs : List tNote.den), _) => .p (scoreF xs = true)) (fun ((xs : List tNote.den), _) => .agg (enc tFrac (endF xs)))
set_option maxHeartbeats 1000000 in
theorem loop_endOfScore_0 : LoopSat Try.prog Try.f78.ntmps (loopAt Try.f78 0) ann_endOfScore_0 := by
  refine loopSat_of (C := C_Ff_1) (L := (addL (firstId (loopAt Try.f78 0)) ann_endOfScore_0 noL)) (wr := false) mixedOk C_Ff_1_ok (loopsIn0 (by kernel_rfl)) (fun d => match d.same, d.vals with | [_, _, _, .int _ n, _], [.int _ i] => (n - i).toNat | _, _ => 0) fun d p t hG hp => ?_
  simp only [ann_endOfScore_0] at hG
  split at hG
  rotate_left
  · simp at hG
  rename_i xs n zs z1 z2 i a b
  simp only [Option.some.injEq, Prod.mk.injEq] at hG
  obtain ⟨rfl, rfl⟩ := hG
  have htree : exRound Try.prog C_Ff_1 false (addL (firstId (loopAt Try.f78 0)) ann_endOfScore_0 noL) Try.f78.ntmps ann_endOfScore_0 (loopAt Try.f78 0) ⟨[.ptr 1 0, .ptr 2 0, .view tNote xs, .int .i64 n, .ptr 3 0], [.box [.view tNote zs], .box [.int .i64 z1, .int .i64 z2]], [.int .i64 i], [[.int .i64 a, .int .i64 b]]⟩ = .ite (decide (i < n)) (.need ((0 : Int) ≤ i ∧ i < (↑xs.length : Int)) (.need ((((1 : Int) ≤ (endN (((getT tNote xs i).fst.fst, (getT tNote xs i).fst.snd), ((getT tNote xs i).snd.fst.fst, (getT tNote xs i).snd.fst.snd), (getT tNote xs i).snd.snd.fst, (getT tNote xs i).snd.snd.snd.fst, (getT tNote xs i).snd.snd.snd.snd)).snd ∧ (endN (((getT tNote xs i).fst.fst, (getT tNote xs i).fst.snd), ((getT tNote xs i).snd.fst.fst, (getT tNote xs i).snd.fst.snd), (getT tNote xs i).snd.snd.fst, (getT tNote xs i).snd.snd.snd.fst, (getT tNote xs i).snd.snd.snd.snd)).snd ≤ (1000000 : Int)) ∧ (-1000000000 : Int) ≤ (endN (((getT tNote xs i).fst.fst, (getT tNote xs i).fst.snd), ((getT tNote xs i).snd.fst.fst, (getT tNote xs i).snd.fst.snd), (getT tNote xs i).snd.snd.fst, (getT tNote xs i).snd.snd.snd.fst, (getT tNote xs i).snd.snd.snd.snd)).fst ∧ (endN (((getT tNote xs i).fst.fst, (getT tNote xs i).fst.snd), ((getT tNote xs i).snd.fst.fst, (getT tNote xs i).snd.fst.snd), (getT tNote xs i).snd.snd.fst, (getT tNote xs i).snd.snd.snd.fst, (getT tNote xs i).snd.snd.snd.snd)).fst ≤ (1000000000 : Int)) ∧ ((1 : Int) ≤ b ∧ b ≤ (1000000 : Int)) ∧ (-1000000000 : Int) ≤ a ∧ a ≤ (1000000000 : Int)) (.ite (decide ((0 : Int) < cmpF (endN (((getT tNote xs i).fst.fst, (getT tNote xs i).fst.snd), ((getT tNote xs i).snd.fst.fst, (getT tNote xs i).snd.fst.snd), (getT tNote xs i).snd.snd.fst, (getT tNote xs i).snd.snd.snd.fst, (getT tNote xs i).snd.snd.snd.snd)).fst (endN (((getT tNote xs i).fst.fst, (getT tNote xs i).fst.snd), ((getT tNote xs i).snd.fst.fst, (getT tNote xs i).snd.fst.snd), (getT tNote xs i).snd.snd.fst, (getT tNote xs i).snd.snd.snd.fst, (getT tNote xs i).snd.snd.snd.snd)).snd a b)) (.need (inK IntKind.i64 (i + (1 : Int))) (.leaf (.normal, ⟨[.ptr 1 0, .ptr 2 0, .view (tFrac.pair (tFrac.pair (I64.pair (I64.pair I64)))) (xs), .int .i64 (n), .ptr 3 0], [.box [.view (tFrac.pair (tFrac.pair (I64.pair (I64.pair I64)))) (zs)], .box [.int .i64 (z1), .int .i64 (z2)]], [.int .i64 (i + (1 : Int))], [[.int .i64 ((endN (((getT tNote xs i).fst.fst, (getT tNote xs i).fst.snd), ((getT tNote xs i).snd.fst.fst, (getT tNote xs i).snd.fst.snd), (getT tNote xs i).snd.snd.fst, (getT tNote xs i).snd.snd.snd.fst, (getT tNote xs i).snd.snd.snd.snd)).fst), .int .i64 ((endN (((getT tNote xs i).fst.fst, (getT tNote xs i).fst.snd), ((getT tNote xs i).snd.fst.fst, (getT tNote xs i).snd.fst.snd), (getT tNote xs i).snd.snd.fst, (getT tNote xs i).snd.snd.snd.fst, (getT tNote xs i).snd.snd.snd.snd)).snd)]]⟩))) (.need (inK IntKind.i64 (i + (1 : Int))) (.leaf (.normal, ⟨[.ptr 1 0, .ptr 2 0, .view (tFrac.pair (tFrac.pair (I64.pair (I64.pair I64)))) (xs), .int .i64 (n), .ptr 3 0], [.box [.view (tFrac.pair (tFrac.pair (I64.pair (I64.pair I64)))) (zs)], .box [.int .i64 (z1), .int .i64 (z2)]], [.int .i64 (i + (1 : Int))], [[.int .i64 (a), .int .i64 (b)]]⟩)))))) (.leaf ((.exit 0), ⟨[.ptr 1 0, .ptr 2 0, .view (tFrac.pair (tFrac.pair (I64.pair (I64.pair I64)))) (xs), .int .i64 (n), .ptr 3 0], [.box [.view (tFrac.pair (tFrac.pair (I64.pair (I64.pair I64)))) (zs)], .box [.int .i64 (z1), .int .i64 (z2)]], [.int .i64 (i)], [[.int .i64 (a), .int .i64 (b)]]⟩)) := by kernel_rfl
  rw [htree]
  clear htree
  replace hp : (0 ≤ i ∧ i ≤ n) ∧ n = (xs.length : Int) ∧ (xs.length ≤ 60 ∧ notesF xs = true) ∧ fracBd (a, b) := hp
  have hz : ∀ x : tNote.den, endN ((x.1.1, x.1.2), (x.2.1.1, x.2.1.2), x.2.2.1, x.2.2.2.1, x.2.2.2.2) = endN x := fun _ => rfl
  simp only [Tree.ok, tyd_inj, packAV, AV.same, AV.same.sameL, encV, encS, enc, inK, Nd.ok, List.headD_cons, List.cons_append, List.nil_append, List.append_nil, true_and, and_true, Bool.true_and, Bool.and_true, loop_next, weakBs_nil, weakBs_cons, weakB_self, weakB_row, weakB_int, weakL_nil, weakL_unk, weakL_guess, isRow_own, isRow_unk, weakL_int, weakL_bool, weakL_str, weakL_own, weakL_view, weakL_nilS, noRow_int, noRow_bool, own_inj, LTree.val, cond_true, cond_false, Prod.mk.injEq, List.cons.injEq, AV.int.injEq, AV.bool.injEq, AV.str.injEq, AV.agg.injEq, ann_endOfScore_0, decide_eq_true_eq, decide_eq_false_iff_not, getT, hz]
  refine ⟨fun ha => ?_, fun ha => ?_⟩
  · have h1 := endGo_go xs i.toNat (a, b) (by omega)
    have g1 := endN_bd (notesF_get hp.2.2.1.2 i.toNat tNote.zero (by omega))
    have g2 := hp.2.2.2
    rw [show (i + 1).toNat = i.toNat + 1 by omega, h1]
    simp only [endStep]
    generalize endN (xs.getD i.toNat tNote.zero) = e at *
    obtain ⟨e1, e2⟩ := e
    simp only [fracBd] at g1 g2 ⊢
    by_cases hc : 0 < cmpF e1 e2 a b
    · rw [if_pos hc]
      repeat' first | apply And.intro | intro _
      all_goals first | omega | assumption | exact hp.2.2.1.2 | rfl
    · rw [if_neg hc]
      repeat' first | apply And.intro | intro _
      all_goals first | omega | assumption | exact hp.2.2.1.2 | rfl
  · rw [show xs.length - i.toNat = 0 by omega]
    simp [Tree.ok, tyd_inj, packAV, AV.same, AV.same.sameL, encV, encS, enc, inK, Nd.ok, List.headD_cons, List.cons_append, List.nil_append, List.append_nil, true_and, and_true, Bool.true_and, Bool.and_true, loop_next, weakBs_nil, weakBs_cons, weakB_self, weakB_row, weakB_int, weakL_nil, weakL_unk, weakL_guess, isRow_own, isRow_unk, weakL_int, weakL_bool, weakL_str, weakL_own, weakL_view, weakL_nilS, noRow_int, noRow_bool, own_inj, LTree.val, cond_true, cond_false, Prod.mk.injEq, List.cons.injEq, AV.int.injEq, AV.bool.injEq, AV.str.injEq, AV.agg.injEq, endGo]
    omega
theorem loops_endOfScore : ∀ c, Try.f78.body = some c → LoopsOk Try.prog (addL (firstId (loopAt Try.f78 0)) ann_endOfScore_0 noL) Try.f78.ntmps c := loopsN fun i hi ann h => by
  have hn : loopN Try.f78 = 1 := by kernel_rfl
  rw [hn] at hi
  exact match i, hi, h with
    | 0, _, h => (Option.some.inj ((show (addL (firstId (loopAt Try.f78 0)) ann_endOfScore_0 noL) (firstId (loopAt Try.f78 0)) = some ann_endOfScore_0 from by kernel_rfl).symm.trans h)) ▸ loop_endOfScore_0
set_option maxHeartbeats 1000000 in
theorem sat_endOfScore : Sat Try.prog 78 ct_endOfScore := by
  refine sat_typed (C := C_Ff_1) (L := (addL (firstId (loopAt Try.f78 0)) ann_endOfScore_0 noL)) (wr := false) mixedOk Try.func78 C_Ff_1_ok (loops_endOfScore) (fun _ => by first | rfl | (simp [ownsOf, ownsOf.ownsL, enc, encV, encS])) fun x hp => ?_
  obtain ⟨(xs : List tNote.den), _⟩ := x
  replace hp : scoreF xs = true := hp
  have htree : exFunc Try.prog C_Ff_1 false (addL (firstId (loopAt Try.f78 0)) ann_endOfScore_0 noL) Try.f78 (encA [.s qNote] (xs, ())) = .need (((0 : Int) ≤ (0 : Int) ∧ (0 : Int) ≤ (↑xs.length : Int)) ∧ (↑xs.length : Int) = (↑xs.length : Int) ∧ (xs.length ≤ (60 : Nat) ∧ notesF xs = true) ∧ fracBd ((0 : Int), (1 : Int))) (.leaf [.agg [.int .i64 ((endGo xs (xs.length - Int.toNat (0 : Int)) (Int.toNat (0 : Int)) ((0 : Int), (1 : Int))).fst), .int .i64 ((endGo xs (xs.length - Int.toNat (0 : Int)) (Int.toNat (0 : Int)) ((0 : Int), (1 : Int))).snd)]]) := by kernel_rfl
  refine (congrArg (Tree.ok _) htree).mpr ?_
  clear htree
  have h1 := score_notes hp
  simp only [Tree.ok, tyd_inj, packAV, AV.same, AV.same.sameL, encV, encS, enc, inK, Nd.ok, List.headD_cons, List.cons_append, List.nil_append, List.append_nil, true_and, and_true, Bool.true_and, Bool.and_true, Int.toNat_zero, Nat.sub_zero]
  exact ⟨⟨by omega, h1, by simp [fracBd]⟩, rfl, rfl⟩
def C_Ff_2 : FuncId → Option Ct := addC 78 ct_endOfScore C_Ff_1
theorem C_Ff_2_ok : COk Try.prog C_Ff_2 := addC_ok C_Ff_1_ok sat_endOfScore
def ct_iEndOfScore : Ct := ctOf [.s qNote] (fun ((xs : List tNote.den), _) => .p ((xs.length : Int) ≤ 9223372036854775807)) (fun ((xs : List tNote.den), _) => .tup [.agg (enc tFrac (endS xs).1), .int .i64 (endS xs).2])
set_option maxHeartbeats 1000000 in
theorem sat_iEndOfScore : Sat Try.prog 56 ct_iEndOfScore := by
  refine sat_typed (C := C_Ff_2) (L := noL) (wr := false) mixedOk Try.func56 C_Ff_2_ok (loops0 (by kernel_rfl)) (fun _ => by first | rfl | (simp [ownsOf, ownsOf.ownsL, enc, encV, encS])) fun x hp => ?_
  obtain ⟨(xs : List tNote.den), _⟩ := x
  replace hp : (xs.length : Int) ≤ 9223372036854775807 := hp
  have htree : exFunc Try.prog C_Ff_2 false noL Try.f56 (encA [.s qNote] (xs, ())) = .need ((↑xs.length : Int) ≤ (9223372036854775807 : Int)) (.ite (!scoreF xs) (.leaf [.agg [.int .i64 ((0 : Int)), .int .i64 ((0 : Int))], .int .i64 ((1 : Int))]) (.need (scoreF xs = true) (.leaf [.agg [.int .i64 ((endF xs).fst), .int .i64 ((endF xs).snd)], .int .i64 ((0 : Int))]))) := by kernel_rfl
  refine (congrArg (Tree.ok _) htree).mpr ?_
  clear htree
  simp only [Tree.ok, tyd_inj, packAV, AV.same, AV.same.sameL, encV, encS, enc, inK, Nd.ok, List.headD_cons, List.cons_append, List.nil_append, List.append_nil, true_and, and_true, Bool.true_and, Bool.and_true, endS]
  repeat' first | apply And.intro | intro _
  all_goals first | omega | grind
def C_Ff_3 : FuncId → Option Ct := addC 56 ct_iEndOfScore C_Ff_2
theorem C_Ff_3_ok : COk Try.prog C_Ff_3 := addC_ok C_Ff_2_ok sat_iEndOfScore

def C_Ff : FuncId → Option Ct := C_Ff_3
theorem C_Ff_ok : COk Try.prog C_Ff := C_Ff_3_ok
end Go.Proofs.Ytjgjcggecikdpaa
