/- Contracts: notes sorted (slices.SortStableFunc and what it calls). Conditions: as each says. -/
import Derived.Test.YtjgjcggecikdpaaFk
import Derived.Test.YtjgjcggecikdpaaSrtQ
set_option linter.unusedSimpArgs false
set_option linter.unusedVariables false
namespace Go.Proofs.Ytjgjcggecikdpaa
open Go.RowKit Sx
set_option maxRecDepth 100000
set_option maxHeartbeats 1000000
theorem etaN (x : tNote.den) : (((x.1.1, x.1.2), (x.2.1.1, x.2.1.2), x.2.2.1, x.2.2.2.1, x.2.2.2.2) : tNote.den) = x := rfl
theorem gcd_sub {i j : Int} : Int.gcd (i - j) j = Int.gcd i j := by
  rw [show i - j = i + (-1) * j by omega]; exact Int.gcd_add_mul_right_left ..
theorem gcd_sub2 {i j : Int} : Int.gcd i (j - i) = Int.gcd i j := by rw [Int.gcd_comm, gcd_sub, Int.gcd_comm]
theorem gcd_bd {i j : Int} (hi : 1 ≤ i) (hj : 1 ≤ j) : 1 ≤ Int.gcd i j ∧ (Int.gcd i j : Int) ≤ i ∧ (Int.gcd i j : Int) ≤ j := by
  have h1 : Int.gcd i j ≤ i.natAbs := Nat.gcd_le_left _ (by omega)
  have h2 : Int.gcd i j ≤ j.natAbs := Nat.gcd_le_right _ (by omega)
  have h3 : 0 < Int.gcd i j := Int.gcd_pos_of_ne_zero_left _ (by omega)
  omega
def qA (xs : List tNote.den) (a : Nat) : Nat → Bool := fun h => ltN (xs.getD h tNote.zero) (xs.getD a tNote.zero)
def qB (xs : List tNote.den) (m : Nat) : Nat → Bool := fun h => !ltN (xs.getD m tNote.zero) (xs.getD h tNote.zero)
def qC (xs : List tNote.den) (p : Nat) : Nat → Bool := fun c => !ltN (xs.getD (p - c) tNote.zero) (xs.getD c tNote.zero)
theorem half_bd {i j : Int} (h0 : 0 ≤ i) (h : i < j) : i ≤ (i + j) / 2 ∧ (i + j) / 2 < j := by omega
theorem pow1 : (2 : Int) ^ Int.toNat (1 : Int) = 2 := rfl
theorem srtW_id {l : List tNote.den} {a b : Nat} (h1 : a ≤ b) (h2 : b ≤ l.length) (h : Srt ltN (win l a b)) : srtW ltN a b l = l := by
  obtain ⟨p, w, t, rfl, e1, e2⟩ := cut2 l h1 h2
  rw [win_at e1 e2] at h
  rw [srtW_at e1 e2, srt_id h]
def ann_swapRange_0 : LAnn := { sameS := [0, 1, 2, 3], modS := [10], sameH := [], modH := [700000], base := 900000, nilE := [], nilB := [], G := fun
  | ⟨[.row 700000, .int .i64 a, .int .i64 b, .int .i64 n], [], [.int .i64 i], [[.agg [.own (.pair (.pair (.int .i64) (.int .i64)) (.pair (.pair (.int .i64) (.int .i64)) (.pair (.int .i64) (.pair (.int .i64) (.int .i64))))) xs]]]⟩ => some (.p ((0 ≤ a ∧ 0 ≤ i ∧ i ≤ n ∧ a + n ≤ b ∧ b + n ≤ (xs.length : Int)) ∧ xs.length ≤ 1000), .leaf (.exit 0) [.int .i64 n] [[.agg [.own tNote (swpL xs (a + i).toNat (b + i).toNat (n - i).toNat)]]])
  | _ => none }
def ct_swapRange : Ct := ctOfW [.ov qNote, .v (.int .i64), .v (.int .i64), .v (.int .i64), .f 143] (fun ((l : List tNote.den), (a : Int), (b : Int), (n : Int), _, _) => .p ((0 ≤ a ∧ 0 ≤ n ∧ a + n ≤ b ∧ b + n ≤ (l.length : Int)) ∧ l.length ≤ 1000)) (fun ((l : List tNote.den), (a : Int), (b : Int), (n : Int), _, _) => .tup []) (fun ((l : List tNote.den), (a : Int), (b : Int), (n : Int), _, _) => ⟨tNote, swpL l a.toNat b.toNat n.toNat⟩)
set_option maxHeartbeats 1000000 in
theorem loop_swapRange_0 : LoopSat Try.prog Try.f235.ntmps (loopAt Try.f235 0) ann_swapRange_0 := by
  refine loopSat_of (C := C_Fk) (L := (addL (firstId (loopAt Try.f235 0)) ann_swapRange_0 noL)) (wr := false) mixedOk C_Fk_ok (loopsIn0 (by kernel_rfl)) (fun d => match d.same, d.vals with | [_, _, _, .int _ n], [.int _ i] => (n - i).toNat | _, _ => 0) fun d p t hG hp => ?_
  simp only [ann_swapRange_0] at hG
  split at hG
  rotate_left
  · simp at hG
  rename_i a b n i xs
  simp only [Option.some.injEq, Prod.mk.injEq] at hG
  obtain ⟨rfl, rfl⟩ := hG
  have htree : exRound Try.prog C_Fk false (addL (firstId (loopAt Try.f235 0)) ann_swapRange_0 noL) Try.f235.ntmps ann_swapRange_0 (loopAt Try.f235 0) ⟨[.row 700000, .int .i64 a, .int .i64 b, .int .i64 n], [], [.int .i64 i], [[.agg [.own tNote xs]]]⟩ = .ite (decide (i < n)) (.need (inK IntKind.i64 (a + i)) (.need (inK IntKind.i64 (b + i)) (.need (inK IntKind.i64 (b + i)) (.need ((0 : Int) ≤ b + i ∧ b + i < (↑xs.length : Int)) (.need ((b + i).toNat < xs.length) (.need (inK IntKind.i64 (a + i)) (.need ((0 : Int) ≤ a + i ∧ a + i < (↑xs.length : Int)) (.need ((a + i).toNat < xs.length) (.need ((0 : Int) ≤ a + i ∧ a + i < (↑xs.length : Int)) (.need ((a + i).toNat < xs.length) (.need ((0 : Int) ≤ b + i ∧ b + i < (↑(xs.set (a + i).toNat (((xs.getD (b + i).toNat tNote.zero).fst.fst, (xs.getD (b + i).toNat tNote.zero).fst.snd), ((xs.getD (b + i).toNat tNote.zero).snd.fst.fst, (xs.getD (b + i).toNat tNote.zero).snd.fst.snd), (xs.getD (b + i).toNat tNote.zero).snd.snd.fst, (xs.getD (b + i).toNat tNote.zero).snd.snd.snd.fst, (xs.getD (b + i).toNat tNote.zero).snd.snd.snd.snd)).length : Int)) (.need ((b + i).toNat < (xs.set (a + i).toNat (((xs.getD (b + i).toNat tNote.zero).fst.fst, (xs.getD (b + i).toNat tNote.zero).fst.snd), ((xs.getD (b + i).toNat tNote.zero).snd.fst.fst, (xs.getD (b + i).toNat tNote.zero).snd.fst.snd), (xs.getD (b + i).toNat tNote.zero).snd.snd.fst, (xs.getD (b + i).toNat tNote.zero).snd.snd.snd.fst, (xs.getD (b + i).toNat tNote.zero).snd.snd.snd.snd)).length) (.need (inK IntKind.i64 (i + (1 : Int))) (.leaf (.normal, ⟨[.row 700000, .int .i64 (a), .int .i64 (b), .int .i64 (n)], [], [.int .i64 (i + (1 : Int))], [[.agg [.own (tFrac.pair (tFrac.pair (I64.pair (I64.pair I64)))) ((xs.set (a + i).toNat (((xs.getD (b + i).toNat tNote.zero).fst.fst, (xs.getD (b + i).toNat tNote.zero).fst.snd), ((xs.getD (b + i).toNat tNote.zero).snd.fst.fst, (xs.getD (b + i).toNat tNote.zero).snd.fst.snd), (xs.getD (b + i).toNat tNote.zero).snd.snd.fst, (xs.getD (b + i).toNat tNote.zero).snd.snd.snd.fst, (xs.getD (b + i).toNat tNote.zero).snd.snd.snd.snd)).set (b + i).toNat (((xs.getD (a + i).toNat tNote.zero).fst.fst, (xs.getD (a + i).toNat tNote.zero).fst.snd), ((xs.getD (a + i).toNat tNote.zero).snd.fst.fst, (xs.getD (a + i).toNat tNote.zero).snd.fst.snd), (xs.getD (a + i).toNat tNote.zero).snd.snd.fst, (xs.getD (a + i).toNat tNote.zero).snd.snd.snd.fst, (xs.getD (a + i).toNat tNote.zero).snd.snd.snd.snd))]]]⟩))))))))))))))) (.leaf ((.exit 0), ⟨[.row 700000, .int .i64 (a), .int .i64 (b), .int .i64 (n)], [], [.int .i64 (i)], [[.agg [.own (tFrac.pair (tFrac.pair (I64.pair (I64.pair I64)))) (xs)]]]⟩)) := by kernel_rfl
  rw [htree]
  clear htree
  replace hp : (0 ≤ a ∧ 0 ≤ i ∧ i ≤ n ∧ a + n ≤ b ∧ b + n ≤ (xs.length : Int)) ∧ xs.length ≤ 1000 := hp
  simp only [Tree.ok, tyd_inj, packAV, AV.same, AV.same.sameL, encV, encS, enc, inK, Nd.ok, List.headD_cons, List.cons_append, List.nil_append, List.append_nil, true_and, and_true, Bool.true_and, Bool.and_true, loop_next, weakBs_nil, weakBs_cons, weakB_self, weakB_row, weakB_int, weakL_nil, weakL_unk, weakL_guess, isRow_own, isRow_unk, weakL_int, weakL_bool, weakL_str, weakL_own, weakL_view, weakL_nilS, noRow_int, noRow_bool, own_inj, LTree.val, cond_true, cond_false, Prod.mk.injEq, List.cons.injEq, AV.int.injEq, AV.bool.injEq, AV.str.injEq, AV.agg.injEq, ann_swapRange_0, decide_eq_true_eq, decide_eq_false_iff_not, etaN]
  refine ⟨fun ha => ?_, fun ha => ?_⟩
  · have h1 := swp_step (l := xs) (a := (a + i).toNat) (b := (b + i).toNat) (n := (n - i - 1).toNat) tNote.zero (by omega) (by omega)
    rw [show (a + (i + 1)).toNat = (a + i).toNat + 1 by omega, show (b + (i + 1)).toNat = (b + i).toNat + 1 by omega, show (n - (i + 1)).toNat = (n - i - 1).toNat by omega, show (n - i).toNat = (n - i - 1).toNat + 1 by omega]
    simp only [List.length_set]
    repeat' first | apply And.intro | intro _
    all_goals first | exact h1 | omega | trivial | rfl
  · rw [show (n - i).toNat = 0 by omega, swp_zero (by omega) (by omega)]
    simp; omega
theorem loops_swapRange : ∀ c, Try.f235.body = some c → LoopsOk Try.prog (addL (firstId (loopAt Try.f235 0)) ann_swapRange_0 noL) Try.f235.ntmps c := loopsN fun i hi ann h => by
  have hn : loopN Try.f235 = 1 := by kernel_rfl
  rw [hn] at hi
  exact match i, hi, h with
    | 0, _, h => (Option.some.inj ((show (addL (firstId (loopAt Try.f235 0)) ann_swapRange_0 noL) (firstId (loopAt Try.f235 0)) = some ann_swapRange_0 from by kernel_rfl).symm.trans h)) ▸ loop_swapRange_0
set_option maxHeartbeats 1000000 in
theorem sat_swapRange : Sat Try.prog 235 ct_swapRange := by
  refine sat_typedW (C := C_Fk) (L := (addL (firstId (loopAt Try.f235 0)) ann_swapRange_0 noL)) (wr := false) mixedOk Try.func235 C_Fk_ok (loops_swapRange) (fun _ => rfl) fun x hp => ?_
  obtain ⟨(l : List tNote.den), (a : Int), (b : Int), (n : Int), _, _⟩ := x
  replace hp : (0 ≤ a ∧ 0 ≤ n ∧ a + n ≤ b ∧ b + n ≤ (l.length : Int)) ∧ l.length ≤ 1000 := hp
  have htree : exFuncW Try.prog C_Fk false (addL (firstId (loopAt Try.f235 0)) ann_swapRange_0 noL) Try.f235 true (rowed.rowedL BR (encA [.ov qNote, .v (.int .i64), .v (.int .i64), .v (.int .i64), .f 143] (l, a, b, n, (), ()))) ⟨tNote, l⟩ = .need (((0 : Int) ≤ a ∧ (0 : Int) ≤ (0 : Int) ∧ (0 : Int) ≤ n ∧ a + n ≤ b ∧ b + n ≤ (↑l.length : Int)) ∧ l.length ≤ (1000 : Nat)) (.leaf ([], some ⟨tFrac.pair (tFrac.pair (I64.pair (I64.pair I64))), swpL l (a + (0 : Int)).toNat (b + (0 : Int)).toNat (n - (0 : Int)).toNat⟩)) := by kernel_rfl
  refine (congrArg (Tree.ok _) htree).mpr ?_
  clear htree
  simp only [Tree.ok, tyd_inj, packAV, AV.same, AV.same.sameL, encV, encS, enc, inK, Nd.ok, List.headD_cons, List.cons_append, List.nil_append, List.append_nil, true_and, and_true, Bool.true_and, Bool.and_true, ownA, encA, encSh, encO, List.headD_cons, ownsOf.ownsL, ownsOf, Int.add_zero, Int.sub_zero]
  repeat' first | apply And.intro | intro _
  all_goals first | omega | trivial | rfl | assumption
def C_Sa_1 : FuncId → Option Ct := addC 235 ct_swapRange C_Fk
theorem C_Sa_1_ok : COk Try.prog C_Sa_1 := addC_ok C_Fk_ok sat_swapRange
def ann_rotate_0 : LAnn := { sameS := [0, 2, 4], modS := [10, 11], sameH := [], modH := [700000], base := 900000, nilE := [], nilB := [], G := fun
  | ⟨[.row 700000, .int .i64 m, .fn 143], [], [.int .i64 i, .int .i64 j], [[.agg [.own (.pair (.pair (.int .i64) (.int .i64)) (.pair (.pair (.int .i64) (.int .i64)) (.pair (.int .i64) (.pair (.int .i64) (.int .i64))))) xs]]]⟩ => some (.p ((1 ≤ i ∧ i ≤ m ∧ 1 ≤ j ∧ m + j ≤ (xs.length : Int)) ∧ xs.length ≤ 1000), .leaf (.exit 0) [.int .i64 (Int.gcd i j : Int), .unk] [[.agg [.own tNote (swpL (rotL xs (m - i).toNat m.toNat (m + j).toNat) (m - (Int.gcd i j : Int)).toNat m.toNat (Int.gcd i j))]]])
  | _ => none }
def ct_rotate : Ct := ctOfW [.ov qNote, .v (.int .i64), .v (.int .i64), .v (.int .i64), .f 143] (fun ((l : List tNote.den), (a : Int), (m : Int), (b : Int), _, _) => .p ((0 ≤ a ∧ a < m ∧ m < b ∧ b ≤ (l.length : Int)) ∧ l.length ≤ 1000)) (fun ((l : List tNote.den), (a : Int), (m : Int), (b : Int), _, _) => .tup []) (fun ((l : List tNote.den), (a : Int), (m : Int), (b : Int), _, _) => ⟨tNote, rotL l a.toNat m.toNat b.toNat⟩)
set_option maxHeartbeats 1000000 in
theorem loop_rotate_0 : LoopSat Try.prog Try.f234.ntmps (loopAt Try.f234 0) ann_rotate_0 := by
  refine loopSat_of (C := C_Sa_1) (L := (addL (firstId (loopAt Try.f234 0)) ann_rotate_0 noL)) (wr := false) mixedOk C_Sa_1_ok (loopsIn0 (by kernel_rfl)) (fun d => match d.vals with | [.int _ i, .int _ j] => (i + j).toNat | _ => 0) fun d p t hG hp => ?_
  simp only [ann_rotate_0] at hG
  split at hG
  rotate_left
  · simp at hG
  rename_i m i j xs
  simp only [Option.some.injEq, Prod.mk.injEq] at hG
  obtain ⟨rfl, rfl⟩ := hG
  have htree : exRound Try.prog C_Sa_1 false (addL (firstId (loopAt Try.f234 0)) ann_rotate_0 noL) Try.f234.ntmps ann_rotate_0 (loopAt Try.f234 0) ⟨[.row 700000, .int .i64 m, .fn 143], [], [.int .i64 i, .int .i64 j], [[.agg [.own tNote xs]]]⟩ = .ite (i != j) (.ite (decide (j < i)) (.need (inK IntKind.i64 (m - i)) (.need (((0 : Int) ≤ m - i ∧ (0 : Int) ≤ j ∧ m - i + j ≤ m ∧ m + j ≤ (↑xs.length : Int)) ∧ xs.length ≤ (1000 : Nat)) (.need (inK IntKind.i64 (i - j)) (.leaf (.normal, ⟨[.row 700000, .int .i64 (m), .fn 143], [], [.int .i64 (i - j), .int .i64 (j)], [[.agg [.own (tFrac.pair (tFrac.pair (I64.pair (I64.pair I64)))) (swpL xs (m - i).toNat m.toNat j.toNat)]]]⟩))))) (.need (inK IntKind.i64 (m - i)) (.need (inK IntKind.i64 (m + j)) (.need (inK IntKind.i64 (m + j - i)) (.need (((0 : Int) ≤ m - i ∧ (0 : Int) ≤ i ∧ m - i + i ≤ m + j - i ∧ m + j - i + i ≤ (↑xs.length : Int)) ∧ xs.length ≤ (1000 : Nat)) (.need (inK IntKind.i64 (j - i)) (.leaf (.normal, ⟨[.row 700000, .int .i64 (m), .fn 143], [], [.int .i64 (i), .int .i64 (j - i)], [[.agg [.own (tFrac.pair (tFrac.pair (I64.pair (I64.pair I64)))) (swpL xs (m - i).toNat (m + j - i).toNat i.toNat)]]]⟩)))))))) (.leaf ((.exit 0), ⟨[.row 700000, .int .i64 (m), .fn 143], [], [.int .i64 (i), .int .i64 (j)], [[.agg [.own (tFrac.pair (tFrac.pair (I64.pair (I64.pair I64)))) (xs)]]]⟩)) := by kernel_rfl
  rw [htree]
  clear htree
  replace hp : (1 ≤ i ∧ i ≤ m ∧ 1 ≤ j ∧ m + j ≤ (xs.length : Int)) ∧ xs.length ≤ 1000 := hp
  have hg := gcd_bd (i := i) (j := j) (by omega) (by omega)
  simp only [Tree.ok, tyd_inj, packAV, AV.same, AV.same.sameL, encV, encS, enc, inK, Nd.ok, List.headD_cons, List.cons_append, List.nil_append, List.append_nil, true_and, and_true, Bool.true_and, Bool.and_true, loop_next, weakBs_nil, weakBs_cons, weakB_self, weakB_row, weakB_int, weakL_nil, weakL_unk, weakL_guess, isRow_own, isRow_unk, weakL_int, weakL_bool, weakL_str, weakL_own, weakL_view, weakL_nilS, noRow_int, noRow_bool, own_inj, LTree.val, cond_true, cond_false, Prod.mk.injEq, List.cons.injEq, AV.int.injEq, AV.bool.injEq, AV.str.injEq, AV.agg.injEq, ann_rotate_0, decide_eq_true_eq, decide_eq_false_iff_not, etaN, bne_iff_ne, ne_eq, bne_eq_false_iff_eq]
  refine ⟨fun ha => ?_, fun ha => ?_⟩
  · have h1 := @rot_gt _ xs i.toNat j.toNat m.toNat
    have h2 := @rot_lt _ xs i.toNat j.toNat m.toNat
    have l1 := @swpL_len _ xs (m - i).toNat m.toNat j.toNat
    have l2 := @swpL_len _ xs (m - i).toNat (m + j - i).toNat i.toNat
    refine ⟨fun hc => ?_, fun hc => ?_⟩
    · have h1 := h1 (by omega) (by omega) (by omega)
      have l1 := l1 (by omega) (by omega)
      rw [show m.toNat - i.toNat = (m - i).toNat by omega, show m.toNat - (i.toNat - j.toNat) = (m - (i - j)).toNat by omega, show m.toNat + j.toNat = (m + j).toNat by omega] at h1
      rw [l1, gcd_sub, h1]
      repeat' first | apply And.intro | intro _
      all_goals first | omega | trivial | rfl
    · have h2 := h2 (by omega) (by omega) (by omega)
      have l2 := l2 (by omega) (by omega)
      rw [show m.toNat - i.toNat = (m - i).toNat by omega, show m.toNat + (j.toNat - i.toNat) = (m + (j - i)).toNat by omega, show m.toNat + j.toNat - i.toNat = (m + j - i).toNat by omega, show m.toNat + j.toNat = (m + j).toNat by omega] at h2
      rw [l2, gcd_sub2, h2]
      repeat' first | apply And.intro | intro _
      all_goals first | omega | trivial | rfl
  · obtain rfl : i = j := by omega
    have e1 : Int.gcd i i = i.toNat := by rw [Int.gcd_self]; omega
    have h1 := rot_eq (l := xs) (i := i.toNat) (m := m.toNat) (by omega) (by omega)
    rw [e1, show (m - i).toNat = m.toNat - i.toNat by omega, show (m + i).toNat = m.toNat + i.toNat by omega, h1, show (m - (i.toNat : Int)).toNat = m.toNat - i.toNat by omega, swp_inv (by omega) (by omega)]
    simp; omega
theorem loops_rotate : ∀ c, Try.f234.body = some c → LoopsOk Try.prog (addL (firstId (loopAt Try.f234 0)) ann_rotate_0 noL) Try.f234.ntmps c := loopsN fun i hi ann h => by
  have hn : loopN Try.f234 = 1 := by kernel_rfl
  rw [hn] at hi
  exact match i, hi, h with
    | 0, _, h => (Option.some.inj ((show (addL (firstId (loopAt Try.f234 0)) ann_rotate_0 noL) (firstId (loopAt Try.f234 0)) = some ann_rotate_0 from by kernel_rfl).symm.trans h)) ▸ loop_rotate_0
set_option maxHeartbeats 1000000 in
theorem sat_rotate : Sat Try.prog 234 ct_rotate := by
  refine sat_typedW (C := C_Sa_1) (L := (addL (firstId (loopAt Try.f234 0)) ann_rotate_0 noL)) (wr := false) mixedOk Try.func234 C_Sa_1_ok (loops_rotate) (fun _ => rfl) fun x hp => ?_
  obtain ⟨(l : List tNote.den), (a : Int), (m : Int), (b : Int), _, _⟩ := x
  replace hp : (0 ≤ a ∧ a < m ∧ m < b ∧ b ≤ (l.length : Int)) ∧ l.length ≤ 1000 := hp
  have htree : exFuncW Try.prog C_Sa_1 false (addL (firstId (loopAt Try.f234 0)) ann_rotate_0 noL) Try.f234 true (rowed.rowedL BR (encA [.ov qNote, .v (.int .i64), .v (.int .i64), .v (.int .i64), .f 143] (l, a, m, b, (), ()))) ⟨tNote, l⟩ = .need (inK IntKind.i64 (m - a)) (.need (inK IntKind.i64 (b - m)) (.need (((1 : Int) ≤ m - a ∧ m - a ≤ m ∧ (1 : Int) ≤ b - m ∧ m + (b - m) ≤ (↑l.length : Int)) ∧ l.length ≤ (1000 : Nat)) (.need (inK IntKind.i64 (m - (↑((m - a).gcd (b - m)) : Int))) (.need (((0 : Int) ≤ m - (↑((m - a).gcd (b - m)) : Int) ∧ (0 : Int) ≤ (↑((m - a).gcd (b - m)) : Int) ∧ m - (↑((m - a).gcd (b - m)) : Int) + (↑((m - a).gcd (b - m)) : Int) ≤ m ∧ m + (↑((m - a).gcd (b - m)) : Int) ≤ (↑(swpL (rotL l (m - (m - a)).toNat m.toNat (m + (b - m)).toNat) (m - (↑((m - a).gcd (b - m)) : Int)).toNat m.toNat ((m - a).gcd (b - m))).length : Int)) ∧ (swpL (rotL l (m - (m - a)).toNat m.toNat (m + (b - m)).toNat) (m - (↑((m - a).gcd (b - m)) : Int)).toNat m.toNat ((m - a).gcd (b - m))).length ≤ (1000 : Nat)) (.leaf ([], some ⟨tFrac.pair (tFrac.pair (I64.pair (I64.pair I64))), swpL (swpL (rotL l (m - (m - a)).toNat m.toNat (m + (b - m)).toNat) (m - (↑((m - a).gcd (b - m)) : Int)).toNat m.toNat ((m - a).gcd (b - m))) (m - (↑((m - a).gcd (b - m)) : Int)).toNat m.toNat (↑((m - a).gcd (b - m)) : Int).toNat⟩)))))) := by kernel_rfl
  refine (congrArg (Tree.ok _) htree).mpr ?_
  clear htree
  have hg := gcd_bd (i := m - a) (j := b - m) (by omega) (by omega)
  have l0 := rotL_len (l := l) (a := a.toNat) (m := m.toNat) (b := b.toNat) (by omega) (by omega) (by omega)
  have l1 := swpL_len (l := rotL l a.toNat m.toNat b.toNat) (a := (m - (Int.gcd (m - a) (b - m) : Int)).toNat) (b := m.toNat) (n := Int.gcd (m - a) (b - m)) (by omega) (by omega)
  have h1 := swp_inv (l := rotL l a.toNat m.toNat b.toNat) (a := (m - (Int.gcd (m - a) (b - m) : Int)).toNat) (b := m.toNat) (n := Int.gcd (m - a) (b - m)) (by omega) (by omega)
  simp only [Tree.ok, tyd_inj, packAV, AV.same, AV.same.sameL, encV, encS, enc, inK, Nd.ok, List.headD_cons, List.cons_append, List.nil_append, List.append_nil, true_and, and_true, Bool.true_and, Bool.and_true, ownA, encA, encSh, encO, List.headD_cons, ownsOf.ownsL, ownsOf, show m - (m - a) = a by omega, show m + (b - m) = b by omega, Int.toNat_natCast, h1, l1]
  repeat' first | apply And.intro | intro _
  all_goals first | omega | trivial | rfl | assumption
def C_Sa_2 : FuncId → Option Ct := addC 234 ct_rotate C_Sa_1
theorem C_Sa_2_ok : COk Try.prog C_Sa_2 := addC_ok C_Sa_1_ok sat_rotate
def ann_insSort_0 : LAnn := { sameS := [0, 1, 2, 3], modS := [8], sameH := [], modH := [700000], base := 900000, nilE := [], nilB := [], G := fun
  | ⟨[.row 700000, .int .i64 a, .int .i64 b, .fn 143], [], [.int .i64 i], [[.agg [.own (.pair (.pair (.int .i64) (.int .i64)) (.pair (.pair (.int .i64) (.int .i64)) (.pair (.int .i64) (.pair (.int .i64) (.int .i64))))) xs]]]⟩ => some (.p ((0 ≤ a ∧ a < i ∧ a ≤ b ∧ b ≤ (xs.length : Int)) ∧ xs.length ≤ 1000 ∧ AllOk goodN xs ∧ Srt ltN (win xs a.toNat i.toNat) ∧ (i ≤ b ∨ i = a + 1)), .leaf (.exit 0) [.unk] [[.agg [.own tNote (srtW ltN a.toNat b.toNat xs)]]])
  | _ => none }
def ann_insSort_1 : LAnn := { sameS := [0, 1, 2, 3, 8], modS := [9], sameH := [], modH := [700000], base := 900000, nilE := [], nilB := [], G := fun
  | ⟨[.row 700000, .int .i64 a, .int .i64 b, .fn 143, .int .i64 i], [], [.int .i64 j], [[.agg [.own (.pair (.pair (.int .i64) (.int .i64)) (.pair (.pair (.int .i64) (.int .i64)) (.pair (.int .i64) (.pair (.int .i64) (.int .i64))))) xs]]]⟩ => some (.p ((0 ≤ a ∧ a ≤ j ∧ j ≤ i ∧ i < (xs.length : Int)) ∧ xs.length ≤ 1000 ∧ AllOk goodN xs ∧ InsInv ltN xs a.toNat j.toNat (i.toNat + 1)), .leaf (.exit 2) [.unk] [[.agg [.own tNote (srtW ltN a.toNat (i.toNat + 1) xs)]]])
  | _ => none }
def ct_insSort : Ct := ctOfW [.ov qNote, .v (.int .i64), .v (.int .i64), .f 143] (fun ((l : List tNote.den), (a : Int), (b : Int), _, _) => .p ((0 ≤ a ∧ a ≤ b ∧ b ≤ (l.length : Int)) ∧ l.length ≤ 1000 ∧ AllOk goodN l)) (fun ((l : List tNote.den), (a : Int), (b : Int), _, _) => .tup []) (fun ((l : List tNote.den), (a : Int), (b : Int), _, _) => ⟨tNote, srtW ltN a.toNat b.toNat l⟩)
set_option maxHeartbeats 1000000 in
theorem loop_insSort_1 : LoopSat Try.prog Try.f230.ntmps (loopAt Try.f230 1) ann_insSort_1 := by
  refine loopSat_of (C := C_Sa_2) (L := (addL (firstId (loopAt Try.f230 1)) ann_insSort_1 (addL (firstId (loopAt Try.f230 0)) ann_insSort_0 noL))) (wr := false) mixedOk C_Sa_2_ok (loopsIn0 (by kernel_rfl)) (fun d => match d.vals with | [.int _ j] => j.toNat | _ => 0) fun d p t hG hp => ?_
  simp only [ann_insSort_1] at hG
  split at hG
  rotate_left
  · simp at hG
  rename_i a b i j xs
  simp only [Option.some.injEq, Prod.mk.injEq] at hG
  obtain ⟨rfl, rfl⟩ := hG
  have htree : exRound Try.prog C_Sa_2 false (addL (firstId (loopAt Try.f230 1)) ann_insSort_1 (addL (firstId (loopAt Try.f230 0)) ann_insSort_0 noL)) Try.f230.ntmps ann_insSort_1 (loopAt Try.f230 1) ⟨[.row 700000, .int .i64 a, .int .i64 b, .fn 143, .int .i64 i], [], [.int .i64 j], [[.agg [.own tNote xs]]]⟩ = .ite (decide (a < j)) (.need ((0 : Int) ≤ j ∧ j < (↑xs.length : Int)) (.need (j.toNat < xs.length) (.need (inK IntKind.i64 (j - (1 : Int))) (.need ((0 : Int) ≤ j - (1 : Int) ∧ j - (1 : Int) < (↑xs.length : Int)) (.need ((j - (1 : Int)).toNat < xs.length) (.need (noteF (((xs.getD j.toNat tNote.zero).fst.fst, (xs.getD j.toNat tNote.zero).fst.snd), ((xs.getD j.toNat tNote.zero).snd.fst.fst, (xs.getD j.toNat tNote.zero).snd.fst.snd), (xs.getD j.toNat tNote.zero).snd.snd.fst, (xs.getD j.toNat tNote.zero).snd.snd.snd.fst, (xs.getD j.toNat tNote.zero).snd.snd.snd.snd) = true ∧ noteF (((xs.getD (j - (1 : Int)).toNat tNote.zero).fst.fst, (xs.getD (j - (1 : Int)).toNat tNote.zero).fst.snd), ((xs.getD (j - (1 : Int)).toNat tNote.zero).snd.fst.fst, (xs.getD (j - (1 : Int)).toNat tNote.zero).snd.fst.snd), (xs.getD (j - (1 : Int)).toNat tNote.zero).snd.snd.fst, (xs.getD (j - (1 : Int)).toNat tNote.zero).snd.snd.snd.fst, (xs.getD (j - (1 : Int)).toNat tNote.zero).snd.snd.snd.snd) = true) (.ite (decide (cmpN (((xs.getD j.toNat tNote.zero).fst.fst, (xs.getD j.toNat tNote.zero).fst.snd), ((xs.getD j.toNat tNote.zero).snd.fst.fst, (xs.getD j.toNat tNote.zero).snd.fst.snd), (xs.getD j.toNat tNote.zero).snd.snd.fst, (xs.getD j.toNat tNote.zero).snd.snd.snd.fst, (xs.getD j.toNat tNote.zero).snd.snd.snd.snd) (((xs.getD (j - (1 : Int)).toNat tNote.zero).fst.fst, (xs.getD (j - (1 : Int)).toNat tNote.zero).fst.snd), ((xs.getD (j - (1 : Int)).toNat tNote.zero).snd.fst.fst, (xs.getD (j - (1 : Int)).toNat tNote.zero).snd.fst.snd), (xs.getD (j - (1 : Int)).toNat tNote.zero).snd.snd.fst, (xs.getD (j - (1 : Int)).toNat tNote.zero).snd.snd.snd.fst, (xs.getD (j - (1 : Int)).toNat tNote.zero).snd.snd.snd.snd) < (0 : Int))) (.need (inK IntKind.i64 (j - (1 : Int))) (.need (inK IntKind.i64 (j - (1 : Int))) (.need ((0 : Int) ≤ j - (1 : Int) ∧ j - (1 : Int) < (↑xs.length : Int)) (.need ((j - (1 : Int)).toNat < xs.length) (.need ((0 : Int) ≤ j ∧ j < (↑xs.length : Int)) (.need (j.toNat < xs.length) (.need ((0 : Int) ≤ j ∧ j < (↑xs.length : Int)) (.need (j.toNat < xs.length) (.need ((0 : Int) ≤ j - (1 : Int) ∧ j - (1 : Int) < (↑(xs.set j.toNat (((xs.getD (j - (1 : Int)).toNat tNote.zero).fst.fst, (xs.getD (j - (1 : Int)).toNat tNote.zero).fst.snd), ((xs.getD (j - (1 : Int)).toNat tNote.zero).snd.fst.fst, (xs.getD (j - (1 : Int)).toNat tNote.zero).snd.fst.snd), (xs.getD (j - (1 : Int)).toNat tNote.zero).snd.snd.fst, (xs.getD (j - (1 : Int)).toNat tNote.zero).snd.snd.snd.fst, (xs.getD (j - (1 : Int)).toNat tNote.zero).snd.snd.snd.snd)).length : Int)) (.need ((j - (1 : Int)).toNat < (xs.set j.toNat (((xs.getD (j - (1 : Int)).toNat tNote.zero).fst.fst, (xs.getD (j - (1 : Int)).toNat tNote.zero).fst.snd), ((xs.getD (j - (1 : Int)).toNat tNote.zero).snd.fst.fst, (xs.getD (j - (1 : Int)).toNat tNote.zero).snd.fst.snd), (xs.getD (j - (1 : Int)).toNat tNote.zero).snd.snd.fst, (xs.getD (j - (1 : Int)).toNat tNote.zero).snd.snd.snd.fst, (xs.getD (j - (1 : Int)).toNat tNote.zero).snd.snd.snd.snd)).length) (.need (inK IntKind.i64 (j - (1 : Int))) (.leaf (.normal, ⟨[.row 700000, .int .i64 (a), .int .i64 (b), .fn 143, .int .i64 (i)], [], [.int .i64 (j - (1 : Int))], [[.agg [.own (tFrac.pair (tFrac.pair (I64.pair (I64.pair I64)))) ((xs.set j.toNat (((xs.getD (j - (1 : Int)).toNat tNote.zero).fst.fst, (xs.getD (j - (1 : Int)).toNat tNote.zero).fst.snd), ((xs.getD (j - (1 : Int)).toNat tNote.zero).snd.fst.fst, (xs.getD (j - (1 : Int)).toNat tNote.zero).snd.fst.snd), (xs.getD (j - (1 : Int)).toNat tNote.zero).snd.snd.fst, (xs.getD (j - (1 : Int)).toNat tNote.zero).snd.snd.snd.fst, (xs.getD (j - (1 : Int)).toNat tNote.zero).snd.snd.snd.snd)).set (j - (1 : Int)).toNat (((xs.getD j.toNat tNote.zero).fst.fst, (xs.getD j.toNat tNote.zero).fst.snd), ((xs.getD j.toNat tNote.zero).snd.fst.fst, (xs.getD j.toNat tNote.zero).snd.fst.snd), (xs.getD j.toNat tNote.zero).snd.snd.fst, (xs.getD j.toNat tNote.zero).snd.snd.snd.fst, (xs.getD j.toNat tNote.zero).snd.snd.snd.snd))]]]⟩))))))))))))) (.leaf ((.exit 2), ⟨[.row 700000, .int .i64 (a), .int .i64 (b), .fn 143, .int .i64 (i)], [], [.int .i64 (j)], [[.agg [.own (tFrac.pair (tFrac.pair (I64.pair (I64.pair I64)))) (xs)]]]⟩))))))))) (.leaf ((.exit 2), ⟨[.row 700000, .int .i64 (a), .int .i64 (b), .fn 143, .int .i64 (i)], [], [.int .i64 (j)], [[.agg [.own (tFrac.pair (tFrac.pair (I64.pair (I64.pair I64)))) (xs)]]]⟩)) := by kernel_rfl
  rw [htree]
  clear htree
  replace hp : (0 ≤ a ∧ a ≤ j ∧ j ≤ i ∧ i < (xs.length : Int)) ∧ xs.length ≤ 1000 ∧ AllOk goodN xs ∧ InsInv ltN xs a.toNat j.toNat (i.toNat + 1) := hp
  obtain ⟨hi, hl, ho, hv⟩ := hp
  have he := ins_end swoN (l := xs) (a := a.toNat) (j := j.toNat) (e := i.toNat + 1) tNote.zero (by omega) (by omega) (by omega) ho hv
  have hg := ins_go swoN (l := xs) (a := a.toNat) (j := j.toNat) (e := i.toNat + 1) tNote.zero
  have g1 := allOk_get ho tNote.zero (i := j.toNat) (by omega)
  simp only [Tree.ok, tyd_inj, packAV, AV.same, AV.same.sameL, encV, encS, enc, inK, Nd.ok, List.headD_cons, List.cons_append, List.nil_append, List.append_nil, true_and, and_true, Bool.true_and, Bool.and_true, loop_next, weakBs_nil, weakBs_cons, weakB_self, weakB_row, weakB_int, weakL_nil, weakL_unk, weakL_guess, isRow_own, isRow_unk, weakL_int, weakL_bool, weakL_str, weakL_own, weakL_view, weakL_nilS, noRow_int, noRow_bool, own_inj, LTree.val, cond_true, cond_false, Prod.mk.injEq, List.cons.injEq, AV.int.injEq, AV.bool.injEq, AV.str.injEq, AV.agg.injEq, ann_insSort_1, decide_eq_true_eq, decide_eq_false_iff_not, etaN]
  refine ⟨fun ha => ?_, fun ha => ?_⟩
  · have g2 := allOk_get ho tNote.zero (i := j.toNat - 1) (by omega)
    rw [show (j - 1).toNat = j.toNat - 1 by omega]
    by_cases hc : cmpN (xs.getD j.toNat tNote.zero) (xs.getD (j.toNat - 1) tNote.zero) < 0
    · obtain ⟨k1, k2, k3⟩ := hg (by omega) (by omega) (by omega) ho hv ((ltN_true _ _).2 hc)
      simp only [k1, List.length_set]
      repeat' first | apply And.intro | intro _
      all_goals first | omega | assumption | exact k2.1 | exact k2.2.1 | exact k2.2.2 _ ‹_› _ ‹_› | exact k3 _ ‹_› | exact ho _ ‹_› | trivial | rfl | contradiction
    · rw [he (.inr ((ltN_false _ _).2 hc))]
      repeat' first | apply And.intro | intro _
      all_goals first | omega | assumption | exact k2.1 | exact k2.2.1 | exact k2.2.2 _ ‹_› _ ‹_› | exact k3 _ ‹_› | exact ho _ ‹_› | trivial | rfl | contradiction
  · rw [he (.inl (by omega))]
    try simp [Tree.ok, tyd_inj, packAV, AV.same, AV.same.sameL, encV, encS, enc, inK, Nd.ok, List.headD_cons, List.cons_append, List.nil_append, List.append_nil, true_and, and_true, Bool.true_and, Bool.and_true, loop_next, weakBs_nil, weakBs_cons, weakB_self, weakB_row, weakB_int, weakL_nil, weakL_unk, weakL_guess, isRow_own, isRow_unk, weakL_int, weakL_bool, weakL_str, weakL_own, weakL_view, weakL_nilS, noRow_int, noRow_bool, own_inj, LTree.val, cond_true, cond_false, Prod.mk.injEq, List.cons.injEq, AV.int.injEq, AV.bool.injEq, AV.str.injEq, AV.agg.injEq]
set_option maxHeartbeats 1000000 in
theorem loop_insSort_0 : LoopSat Try.prog Try.f230.ntmps (loopAt Try.f230 0) ann_insSort_0 := by
  refine loopSat_of (C := C_Sa_2) (L := (addL (firstId (loopAt Try.f230 1)) ann_insSort_1 (addL (firstId (loopAt Try.f230 0)) ann_insSort_0 noL))) (wr := false) mixedOk C_Sa_2_ok (loopsIn1 (b := loopAt Try.f230 1) (by kernel_rfl) (fun ann h => (Option.some.inj ((show (addL (firstId (loopAt Try.f230 1)) ann_insSort_1 (addL (firstId (loopAt Try.f230 0)) ann_insSort_0 noL)) (firstId (loopAt Try.f230 1)) = some ann_insSort_1 from by kernel_rfl).symm.trans h)) ▸ loop_insSort_1)) (fun d => match d.same, d.vals with | [_, _, .int _ b, _], [.int _ i] => (b - i).toNat | _, _ => 0) fun d p t hG hp => ?_
  simp only [ann_insSort_0] at hG
  split at hG
  rotate_left
  · simp at hG
  rename_i a b i xs
  simp only [Option.some.injEq, Prod.mk.injEq] at hG
  obtain ⟨rfl, rfl⟩ := hG
  have htree : exRound Try.prog C_Sa_2 false (addL (firstId (loopAt Try.f230 1)) ann_insSort_1 (addL (firstId (loopAt Try.f230 0)) ann_insSort_0 noL)) Try.f230.ntmps ann_insSort_0 (loopAt Try.f230 0) ⟨[.row 700000, .int .i64 a, .int .i64 b, .fn 143], [], [.int .i64 i], [[.agg [.own tNote xs]]]⟩ = .ite (decide (i < b)) (.need (((0 : Int) ≤ a ∧ a ≤ i ∧ i ≤ i ∧ i < (↑xs.length : Int)) ∧ xs.length ≤ (1000 : Nat) ∧ AllOk goodN xs ∧ InsInv ltN xs a.toNat i.toNat (i.toNat + (1 : Nat))) (.need (inK IntKind.i64 (i + (1 : Int))) (.leaf (.normal, ⟨[.row 700000, .int .i64 (a), .int .i64 (b), .fn 143], [], [.int .i64 (i + (1 : Int))], [[.agg [.own (tFrac.pair (tFrac.pair (I64.pair (I64.pair I64)))) (srtW ltN a.toNat (i.toNat + (1 : Nat)) xs)]]]⟩)))) (.leaf ((.exit 0), ⟨[.row 700000, .int .i64 (a), .int .i64 (b), .fn 143], [], [.int .i64 (i)], [[.agg [.own (tFrac.pair (tFrac.pair (I64.pair (I64.pair I64)))) (xs)]]]⟩)) := by kernel_rfl
  rw [htree]
  clear htree
  replace hp : (0 ≤ a ∧ a < i ∧ a ≤ b ∧ b ≤ (xs.length : Int)) ∧ xs.length ≤ 1000 ∧ AllOk goodN xs ∧ Srt ltN (win xs a.toNat i.toNat) ∧ (i ≤ b ∨ i = a + 1) := hp
  obtain ⟨hi, hl, ho, hs, hd⟩ := hp
  simp only [Tree.ok, tyd_inj, packAV, AV.same, AV.same.sameL, encV, encS, enc, inK, Nd.ok, List.headD_cons, List.cons_append, List.nil_append, List.append_nil, true_and, and_true, Bool.true_and, Bool.and_true, loop_next, weakBs_nil, weakBs_cons, weakB_self, weakB_row, weakB_int, weakL_nil, weakL_unk, weakL_guess, isRow_own, isRow_unk, weakL_int, weakL_bool, weakL_str, weakL_own, weakL_view, weakL_nilS, noRow_int, noRow_bool, own_inj, LTree.val, cond_true, cond_false, Prod.mk.injEq, List.cons.injEq, AV.int.injEq, AV.bool.injEq, AV.str.injEq, AV.agg.injEq, ann_insSort_0, decide_eq_true_eq, decide_eq_false_iff_not, etaN]
  refine ⟨fun ha => ?_, fun ha => ?_⟩
  · have l1 := srtW_len (lt := ltN) (l := xs) (a := a.toNat) (b := i.toNat + 1) (by omega) (by omega)
    have o1 := allOk_srtW (lt := ltN) (l := xs) (a := a.toNat) (b := i.toNat + 1) (by omega) (by omega) ho
    have w1 := win_srtW_same (lt := ltN) (l := xs) (a := a.toNat) (b := i.toNat + 1) (by omega) (by omega)
    have s1 : Srt ltN (srt ltN (win xs a.toNat (i.toNat + 1))) := sorted_srt swoN fun x hx => ho x (by unfold win at hx; exact List.mem_of_mem_take (List.mem_of_mem_drop hx))
    have e1 := srtW_srtW swoN (l := xs) (a := a.toNat) (c := i.toNat + 1) (b := b.toNat) (by omega) (by omega) (by omega) ho
    have v1 := insInv_begin hs
    rw [show (i + 1).toNat = i.toNat + 1 by omega, l1, w1, e1]
    repeat' first | apply And.intro | intro _
    all_goals first | omega | assumption | exact o1 _ ‹_› | exact ho _ ‹_› | exact v1.1 | exact v1.2.1 | exact v1.2.2 _ ‹_› _ ‹_› | trivial | rfl
  · have : srtW ltN a.toNat b.toNat xs = xs := by
      refine srtW_id (by omega) (by omega) ?_
      rcases Int.lt_or_eq_of_le hi.2.2.1 with h | h
      · rw [show b.toNat = i.toNat by omega]; exact hs
      · rw [show b.toNat = a.toNat by omega, win_self]; exact srt_nil
    rw [this]
    try simp [Tree.ok, tyd_inj, packAV, AV.same, AV.same.sameL, encV, encS, enc, inK, Nd.ok, List.headD_cons, List.cons_append, List.nil_append, List.append_nil, true_and, and_true, Bool.true_and, Bool.and_true, loop_next, weakBs_nil, weakBs_cons, weakB_self, weakB_row, weakB_int, weakL_nil, weakL_unk, weakL_guess, isRow_own, isRow_unk, weakL_int, weakL_bool, weakL_str, weakL_own, weakL_view, weakL_nilS, noRow_int, noRow_bool, own_inj, LTree.val, cond_true, cond_false, Prod.mk.injEq, List.cons.injEq, AV.int.injEq, AV.bool.injEq, AV.str.injEq, AV.agg.injEq]
theorem loops_insSort : ∀ c, Try.f230.body = some c → LoopsOk Try.prog (addL (firstId (loopAt Try.f230 1)) ann_insSort_1 (addL (firstId (loopAt Try.f230 0)) ann_insSort_0 noL)) Try.f230.ntmps c := loopsN fun i hi ann h => by
  have hn : loopN Try.f230 = 2 := by kernel_rfl
  rw [hn] at hi
  exact match i, hi, h with
    | 0, _, h => (Option.some.inj ((show (addL (firstId (loopAt Try.f230 1)) ann_insSort_1 (addL (firstId (loopAt Try.f230 0)) ann_insSort_0 noL)) (firstId (loopAt Try.f230 0)) = some ann_insSort_0 from by kernel_rfl).symm.trans h)) ▸ loop_insSort_0
    | 1, _, h => (Option.some.inj ((show (addL (firstId (loopAt Try.f230 1)) ann_insSort_1 (addL (firstId (loopAt Try.f230 0)) ann_insSort_0 noL)) (firstId (loopAt Try.f230 1)) = some ann_insSort_1 from by kernel_rfl).symm.trans h)) ▸ loop_insSort_1
set_option maxHeartbeats 1000000 in
theorem sat_insSort : Sat Try.prog 230 ct_insSort := by
  refine sat_typedW (C := C_Sa_2) (L := (addL (firstId (loopAt Try.f230 1)) ann_insSort_1 (addL (firstId (loopAt Try.f230 0)) ann_insSort_0 noL))) (wr := false) mixedOk Try.func230 C_Sa_2_ok (loops_insSort) (fun _ => rfl) fun x hp => ?_
  obtain ⟨(l : List tNote.den), (a : Int), (b : Int), _, _⟩ := x
  replace hp : (0 ≤ a ∧ a ≤ b ∧ b ≤ (l.length : Int)) ∧ l.length ≤ 1000 ∧ AllOk goodN l := hp
  have htree : exFuncW Try.prog C_Sa_2 false (addL (firstId (loopAt Try.f230 1)) ann_insSort_1 (addL (firstId (loopAt Try.f230 0)) ann_insSort_0 noL)) Try.f230 true (rowed.rowedL BR (encA [.ov qNote, .v (.int .i64), .v (.int .i64), .f 143] (l, a, b, (), ()))) ⟨tNote, l⟩ = .need (inK IntKind.i64 (a + (1 : Int))) (.need (((0 : Int) ≤ a ∧ a < a + (1 : Int) ∧ a ≤ b ∧ b ≤ (↑l.length : Int)) ∧ l.length ≤ (1000 : Nat) ∧ AllOk goodN l ∧ Srt ltN (win l a.toNat (a + (1 : Int)).toNat) ∧ (a + (1 : Int) ≤ b ∨ a + (1 : Int) = a + (1 : Int))) (.leaf ([], some ⟨tFrac.pair (tFrac.pair (I64.pair (I64.pair I64))), srtW ltN a.toNat b.toNat l⟩))) := by kernel_rfl
  refine (congrArg (Tree.ok _) htree).mpr ?_
  clear htree
  have w1 : Srt ltN (win l a.toNat (a + 1).toNat) := by rw [show (a + 1).toNat = a.toNat + 1 by omega]; exact win_one
  simp only [Tree.ok, tyd_inj, packAV, AV.same, AV.same.sameL, encV, encS, enc, inK, Nd.ok, List.headD_cons, List.cons_append, List.nil_append, List.append_nil, true_and, and_true, Bool.true_and, Bool.and_true, ownA, encA, encSh, encO, List.headD_cons, ownsOf.ownsL, ownsOf]
  repeat' first | apply And.intro | intro _
  all_goals first | omega | exact .inr trivial | exact hp.2.2 _ ‹_› | exact hp.2.2 | trivial | rfl | assumption
def C_Sa_3 : FuncId → Option Ct := addC 230 ct_insSort C_Sa_2
theorem C_Sa_3_ok : COk Try.prog C_Sa_3 := addC_ok C_Sa_2_ok sat_insSort

def C_Sa : FuncId → Option Ct := C_Sa_3
theorem C_Sa_ok : COk Try.prog C_Sa := C_Sa_3_ok
end Go.Proofs.Ytjgjcggecikdpaa
