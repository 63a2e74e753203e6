/- The modes of a tuning; the law on them. Conditions: as each says. -/
import Derived.Test.YtjgjcggecikdpaaFl
set_option linter.unusedSimpArgs false
set_option linter.unusedVariables false
namespace Go.Proofs.Ytjgjcggecikdpaa
open Go.RowKit Sx
set_option maxRecDepth 100000
set_option maxHeartbeats 1000000
def modeAt (x : tTuning.den) (d i : Nat) : Fr × Int := if (x.2.2 : List tFrac.den).length ≤ d + i then (if (mulF (atF x.2.2 ((d + i) % (x.2.2 : List tFrac.den).length)).1 (atF x.2.2 ((d + i) % (x.2.2 : List tFrac.den).length)).2 x.2.1.1 x.2.1.2).2 = 0 then divF (mulF (atF x.2.2 ((d + i) % (x.2.2 : List tFrac.den).length)).1 (atF x.2.2 ((d + i) % (x.2.2 : List tFrac.den).length)).2 x.2.1.1 x.2.1.2).1.1 (mulF (atF x.2.2 ((d + i) % (x.2.2 : List tFrac.den).length)).1 (atF x.2.2 ((d + i) % (x.2.2 : List tFrac.den).length)).2 x.2.1.1 x.2.1.2).1.2 (atF x.2.2 d).1 (atF x.2.2 d).2 else ((0, 0), 2)) else divF (atF x.2.2 ((d + i) % (x.2.2 : List tFrac.den).length)).1 (atF x.2.2 ((d + i) % (x.2.2 : List tFrac.den).length)).2 (atF x.2.2 d).1 (atF x.2.2 d).2
def modeGo (x : tTuning.den) (d : Nat) : Nat → Nat → List Fr × Int
  | 0, _ => ([], 0)
  | n + 1, i => if (modeAt x d i).2 = 0 then ((modeAt x d i).1 :: (modeGo x d n (i + 1)).1, (modeGo x d n (i + 1)).2) else ([], 2)
def modeF (x : tTuning.den) (deg : Int) : tTuning.den × Int := if tuneF x = true then (if 0 ≤ deg ∧ deg ≤ ((x.2.2 : List tFrac.den).length : Int) - 1 then (if (modeGo x deg.toNat (x.2.2 : List tFrac.den).length 0).2 = 0 then ((x.1, x.2.1, (modeGo x deg.toNat (x.2.2 : List tFrac.den).length 0).1), 0) else (((0, 0), (0, 0), []), 2)) else (((0, 0), (0, 0), []), 2)) else (((0, 0), (0, 0), []), 1)
theorem modeGo_at (x : tTuning.den) (d n i : Nat) (h : i < n) : modeGo x d (n - i) i = if (modeAt x d i).2 = 0 then ((modeAt x d i).1 :: (modeGo x d (n - (i + 1)) (i + 1)).1, (modeGo x d (n - (i + 1)) (i + 1)).2) else ([], 2) := by
  rw [show n - i = (n - (i + 1)) + 1 by omega]; rfl
theorem modeGo_len (x : tTuning.den) (d : Nat) : ∀ n i : Nat, (modeGo x d n i).1.length ≤ n
  | 0, _ => Nat.le_refl _
  | n + 1, i => by
    have := modeGo_len x d n (i + 1)
    unfold modeGo
    split <;> simp <;> omega
theorem modeF_len (x : tTuning.den) (d : Int) : ((modeF x d).1.2.2 : List tFrac.den).length ≤ 24 := by
  unfold modeF
  split
  · rename_i h
    have hb := tune_bd h
    split
    · split
      · have := modeGo_len x d.toNat (x.2.2 : List tFrac.den).length 0
        simp only; omega
      · simp
    · simp
  · simp
def ann_iModeOf_0 : LAnn := { sameS := [1, 2, 4, 6, 7, 29], modS := [5, 30], sameH := [2], modH := [4, 7], base := 900000, nilE := [], nilB := [⟨7, 4, 800000, tFrac⟩], G := fun
  | ⟨[.int .i64 d, .ptr 2 0, .ptr 4 0, .int .i64 n, .ptr 7 0, .int .i64 m], [.box [.int .i64 b1, .int .i64 b2, .int .i64 o1, .int .i64 o2, .view (.pair (.int .i64) (.int .i64)) rs]], [.int .i64 c, .int .i64 i], [[.int .i64 z1, .int .i64 z2, .int .i64 z3, .int .i64 z4, .nilS], [.int .i64 c1, .int .i64 c2, .int .i64 p1, .int .i64 p2, .own (.pair (.int .i64) (.int .i64)) out]]⟩ => some (.p (tuneF ((b1, b2), (o1, o2), rs) = true ∧ n = (rs.length : Int) ∧ m = n ∧ (0 ≤ d ∧ d ≤ n - 1) ∧ (0 ≤ i ∧ i ≤ n) ∧ (out.length : Int) = i), .ite (decide ((modeGo ((b1, b2), (o1, o2), rs) d.toNat (rs.length - i.toNat) i.toNat).2 = 0)) (.leaf (.exit 0) [.int .i64 c, .unk] [[.int .i64 z1, .int .i64 z2, .int .i64 z3, .int .i64 z4, .nilS], [.int .i64 c1, .int .i64 c2, .int .i64 p1, .int .i64 p2, .own tFrac (out ++ (modeGo ((b1, b2), (o1, o2), rs) d.toNat (rs.length - i.toNat) i.toNat).1)]]) (.leaf .ret [.int .i64 2, .unk] [[.int .i64 0, .int .i64 0, .int .i64 0, .int .i64 0, .nilS], [.unk, .unk, .unk, .unk, .own tFrac (out ++ (modeGo ((b1, b2), (o1, o2), rs) d.toNat (rs.length - i.toNat) i.toNat).1)]]))
  | _ => none }
def ct_iModeOf : Ct := ctOf [.s tTuning, .v (.int .i64)] (fun ((x : tTuning.den), (d : Int), _) => .p ((x.2.2 : List tFrac.den).length ≤ 16777215)) (fun ((x : tTuning.den), (d : Int), _) => .tup [.agg [.int .i64 (modeF x d).1.1.1, .int .i64 (modeF x d).1.1.2, .int .i64 (modeF x d).1.2.1.1, .int .i64 (modeF x d).1.2.1.2, .own tFrac (modeF x d).1.2.2], .int .i64 (modeF x d).2])
set_option maxHeartbeats 1000000 in
theorem loop_iModeOf_0 : LoopSat Try.prog Try.f25.ntmps (loopAt Try.f25 0) ann_iModeOf_0 := by
  refine loopSat_of (C := C_Fl) (L := (addL (firstId (loopAt Try.f25 0)) ann_iModeOf_0 noL)) (wr := false) mixedOk C_Fl_ok (loopsIn0 (by kernel_rfl)) (fun d => match d.same, d.vals with | [_, _, _, _, _, .int _ n], [_, .int _ i] => (n - i).toNat | _, _ => 0) fun d p t hG hp => ?_
  simp only [ann_iModeOf_0] at hG
  split at hG
  rotate_left
  · simp at hG
  rename_i d n m b1 b2 o1 o2 rs c i z1 z2 z3 z4 c1 c2 p1 p2 out
  simp only [Option.some.injEq, Prod.mk.injEq] at hG
  obtain ⟨rfl, rfl⟩ := hG
  have htree : exRound Try.prog C_Fl false (addL (firstId (loopAt Try.f25 0)) ann_iModeOf_0 noL) Try.f25.ntmps ann_iModeOf_0 (loopAt Try.f25 0) ⟨[.int .i64 d, .ptr 2 0, .ptr 4 0, .int .i64 n, .ptr 7 0, .int .i64 m], [.box [.int .i64 b1, .int .i64 b2, .int .i64 o1, .int .i64 o2, .view tFrac rs]], [.int .i64 c, .int .i64 i], [[.int .i64 z1, .int .i64 z2, .int .i64 z3, .int .i64 z4, .nilS], [.int .i64 c1, .int .i64 c2, .int .i64 p1, .int .i64 p2, .own tFrac out]]⟩ = .ite (decide (i < m)) (.need (inK IntKind.i64 (d + i)) (.need (n ≠ (0 : Int)) (.need ((0 : Int) ≤ (d + i).tmod n ∧ (d + i).tmod n < (↑rs.length : Int)) (.need (inK IntKind.i64 (d + i)) (.ite (decide (n ≤ d + i)) (.ite ((mulF (getT tFrac rs ((d + i).tmod n)).fst (getT tFrac rs ((d + i).tmod n)).snd o1 o2).snd == (0 : Int)) (.need ((0 : Int) ≤ d ∧ d < (↑rs.length : Int)) (.ite ((divF (mulF (getT tFrac rs ((d + i).tmod n)).fst (getT tFrac rs ((d + i).tmod n)).snd o1 o2).fst.fst (mulF (getT tFrac rs ((d + i).tmod n)).fst (getT tFrac rs ((d + i).tmod n)).snd o1 o2).fst.snd (getT tFrac rs d).fst (getT tFrac rs d).snd).snd != (0 : Int)) (.leaf (.ret, ⟨[.int .i64 (d), .ptr 2 0, .ptr 4 0, .int .i64 (n), .ptr 7 0, .int .i64 (m)], [.box [.int .i64 (b1), .int .i64 (b2), .int .i64 (o1), .int .i64 (o2), .view (I64.pair I64) (rs)]], [.int .i64 ((divF (mulF (getT tFrac rs ((d + i).tmod n)).fst (getT tFrac rs ((d + i).tmod n)).snd o1 o2).fst.fst (mulF (getT tFrac rs ((d + i).tmod n)).fst (getT tFrac rs ((d + i).tmod n)).snd o1 o2).fst.snd (getT tFrac rs d).fst (getT tFrac rs d).snd).snd), .int .i64 (i)], [[.int .i64 ((0 : Int)), .int .i64 ((0 : Int)), .int .i64 ((0 : Int)), .int .i64 ((0 : Int)), .nilS], [.int .i64 (c1), .int .i64 (c2), .int .i64 (p1), .int .i64 (p2), .own (I64.pair I64) (out)]]⟩)) (.need (out.length + [((divF (mulF (getT tFrac rs ((d + i).tmod n)).fst (getT tFrac rs ((d + i).tmod n)).snd o1 o2).fst.fst (mulF (getT tFrac rs ((d + i).tmod n)).fst (getT tFrac rs ((d + i).tmod n)).snd o1 o2).fst.snd (getT tFrac rs d).fst (getT tFrac rs d).snd).fst.fst, (divF (mulF (getT tFrac rs ((d + i).tmod n)).fst (getT tFrac rs ((d + i).tmod n)).snd o1 o2).fst.fst (mulF (getT tFrac rs ((d + i).tmod n)).fst (getT tFrac rs ((d + i).tmod n)).snd o1 o2).fst.snd (getT tFrac rs d).fst (getT tFrac rs d).snd).fst.snd)].length ≤ (16777216 : Nat)) (.need (inK IntKind.i64 (i + (1 : Int))) (.leaf (.normal, ⟨[.int .i64 (d), .ptr 2 0, .ptr 4 0, .int .i64 (n), .ptr 7 0, .int .i64 (m)], [.box [.int .i64 (b1), .int .i64 (b2), .int .i64 (o1), .int .i64 (o2), .view (I64.pair I64) (rs)]], [.int .i64 (c), .int .i64 (i + (1 : Int))], [[.int .i64 (z1), .int .i64 (z2), .int .i64 (z3), .int .i64 (z4), .nilS], [.int .i64 (c1), .int .i64 (c2), .int .i64 (p1), .int .i64 (p2), .own (I64.pair I64) (out ++ [((divF (mulF (getT tFrac rs ((d + i).tmod n)).fst (getT tFrac rs ((d + i).tmod n)).snd o1 o2).fst.fst (mulF (getT tFrac rs ((d + i).tmod n)).fst (getT tFrac rs ((d + i).tmod n)).snd o1 o2).fst.snd (getT tFrac rs d).fst (getT tFrac rs d).snd).fst.fst, (divF (mulF (getT tFrac rs ((d + i).tmod n)).fst (getT tFrac rs ((d + i).tmod n)).snd o1 o2).fst.fst (mulF (getT tFrac rs ((d + i).tmod n)).fst (getT tFrac rs ((d + i).tmod n)).snd o1 o2).fst.snd (getT tFrac rs d).fst (getT tFrac rs d).snd).fst.snd)])]]⟩)))))) (.ite ((mulF (getT tFrac rs ((d + i).tmod n)).fst (getT tFrac rs ((d + i).tmod n)).snd o1 o2).snd != (0 : Int)) (.leaf (.ret, ⟨[.int .i64 (d), .ptr 2 0, .ptr 4 0, .int .i64 (n), .ptr 7 0, .int .i64 (m)], [.box [.int .i64 (b1), .int .i64 (b2), .int .i64 (o1), .int .i64 (o2), .view (I64.pair I64) (rs)]], [.int .i64 ((mulF (getT tFrac rs ((d + i).tmod n)).fst (getT tFrac rs ((d + i).tmod n)).snd o1 o2).snd), .int .i64 (i)], [[.int .i64 ((0 : Int)), .int .i64 ((0 : Int)), .int .i64 ((0 : Int)), .int .i64 ((0 : Int)), .nilS], [.int .i64 (c1), .int .i64 (c2), .int .i64 (p1), .int .i64 (p2), .own (I64.pair I64) (out)]]⟩)) (.need (out.length + [((mulF (getT tFrac rs ((d + i).tmod n)).fst (getT tFrac rs ((d + i).tmod n)).snd o1 o2).fst.fst, (mulF (getT tFrac rs ((d + i).tmod n)).fst (getT tFrac rs ((d + i).tmod n)).snd o1 o2).fst.snd)].length ≤ (16777216 : Nat)) (.need (inK IntKind.i64 (i + (1 : Int))) (.leaf (.normal, ⟨[.int .i64 (d), .ptr 2 0, .ptr 4 0, .int .i64 (n), .ptr 7 0, .int .i64 (m)], [.box [.int .i64 (b1), .int .i64 (b2), .int .i64 (o1), .int .i64 (o2), .view (I64.pair I64) (rs)]], [.int .i64 (c), .int .i64 (i + (1 : Int))], [[.int .i64 (z1), .int .i64 (z2), .int .i64 (z3), .int .i64 (z4), .nilS], [.int .i64 (c1), .int .i64 (c2), .int .i64 (p1), .int .i64 (p2), .own (I64.pair I64) (out ++ [((mulF (getT tFrac rs ((d + i).tmod n)).fst (getT tFrac rs ((d + i).tmod n)).snd o1 o2).fst.fst, (mulF (getT tFrac rs ((d + i).tmod n)).fst (getT tFrac rs ((d + i).tmod n)).snd o1 o2).fst.snd)])]]⟩)))))) (.ite ((0 : Int) == (0 : Int)) (.need ((0 : Int) ≤ d ∧ d < (↑rs.length : Int)) (.ite ((divF (getT tFrac rs ((d + i).tmod n)).fst (getT tFrac rs ((d + i).tmod n)).snd (getT tFrac rs d).fst (getT tFrac rs d).snd).snd != (0 : Int)) (.leaf (.ret, ⟨[.int .i64 (d), .ptr 2 0, .ptr 4 0, .int .i64 (n), .ptr 7 0, .int .i64 (m)], [.box [.int .i64 (b1), .int .i64 (b2), .int .i64 (o1), .int .i64 (o2), .view (I64.pair I64) (rs)]], [.int .i64 ((divF (getT tFrac rs ((d + i).tmod n)).fst (getT tFrac rs ((d + i).tmod n)).snd (getT tFrac rs d).fst (getT tFrac rs d).snd).snd), .int .i64 (i)], [[.int .i64 ((0 : Int)), .int .i64 ((0 : Int)), .int .i64 ((0 : Int)), .int .i64 ((0 : Int)), .nilS], [.int .i64 (c1), .int .i64 (c2), .int .i64 (p1), .int .i64 (p2), .own (I64.pair I64) (out)]]⟩)) (.need (out.length + [((divF (getT tFrac rs ((d + i).tmod n)).fst (getT tFrac rs ((d + i).tmod n)).snd (getT tFrac rs d).fst (getT tFrac rs d).snd).fst.fst, (divF (getT tFrac rs ((d + i).tmod n)).fst (getT tFrac rs ((d + i).tmod n)).snd (getT tFrac rs d).fst (getT tFrac rs d).snd).fst.snd)].length ≤ (16777216 : Nat)) (.need (inK IntKind.i64 (i + (1 : Int))) (.leaf (.normal, ⟨[.int .i64 (d), .ptr 2 0, .ptr 4 0, .int .i64 (n), .ptr 7 0, .int .i64 (m)], [.box [.int .i64 (b1), .int .i64 (b2), .int .i64 (o1), .int .i64 (o2), .view (I64.pair I64) (rs)]], [.int .i64 (c), .int .i64 (i + (1 : Int))], [[.int .i64 (z1), .int .i64 (z2), .int .i64 (z3), .int .i64 (z4), .nilS], [.int .i64 (c1), .int .i64 (c2), .int .i64 (p1), .int .i64 (p2), .own (I64.pair I64) (out ++ [((divF (getT tFrac rs ((d + i).tmod n)).fst (getT tFrac rs ((d + i).tmod n)).snd (getT tFrac rs d).fst (getT tFrac rs d).snd).fst.fst, (divF (getT tFrac rs ((d + i).tmod n)).fst (getT tFrac rs ((d + i).tmod n)).snd (getT tFrac rs d).fst (getT tFrac rs d).snd).fst.snd)])]]⟩)))))) (.ite ((0 : Int) != (0 : Int)) (.leaf (.ret, ⟨[.int .i64 (d), .ptr 2 0, .ptr 4 0, .int .i64 (n), .ptr 7 0, .int .i64 (m)], [.box [.int .i64 (b1), .int .i64 (b2), .int .i64 (o1), .int .i64 (o2), .view (I64.pair I64) (rs)]], [.int .i64 ((0 : Int)), .int .i64 (i)], [[.int .i64 ((0 : Int)), .int .i64 ((0 : Int)), .int .i64 ((0 : Int)), .int .i64 ((0 : Int)), .nilS], [.int .i64 (c1), .int .i64 (c2), .int .i64 (p1), .int .i64 (p2), .own (I64.pair I64) (out)]]⟩)) (.need (out.length + [((getT tFrac rs ((d + i).tmod n)).fst, (getT tFrac rs ((d + i).tmod n)).snd)].length ≤ (16777216 : Nat)) (.need (inK IntKind.i64 (i + (1 : Int))) (.leaf (.normal, ⟨[.int .i64 (d), .ptr 2 0, .ptr 4 0, .int .i64 (n), .ptr 7 0, .int .i64 (m)], [.box [.int .i64 (b1), .int .i64 (b2), .int .i64 (o1), .int .i64 (o2), .view (I64.pair I64) (rs)]], [.int .i64 (c), .int .i64 (i + (1 : Int))], [[.int .i64 (z1), .int .i64 (z2), .int .i64 (z3), .int .i64 (z4), .nilS], [.int .i64 (c1), .int .i64 (c2), .int .i64 (p1), .int .i64 (p2), .own (I64.pair I64) (out ++ [((getT tFrac rs ((d + i).tmod n)).fst, (getT tFrac rs ((d + i).tmod n)).snd)])]]⟩))))))))))) (.leaf ((.exit 0), ⟨[.int .i64 (d), .ptr 2 0, .ptr 4 0, .int .i64 (n), .ptr 7 0, .int .i64 (m)], [.box [.int .i64 (b1), .int .i64 (b2), .int .i64 (o1), .int .i64 (o2), .view (I64.pair I64) (rs)]], [.int .i64 (c), .int .i64 (i)], [[.int .i64 (z1), .int .i64 (z2), .int .i64 (z3), .int .i64 (z4), .nilS], [.int .i64 (c1), .int .i64 (c2), .int .i64 (p1), .int .i64 (p2), .own (I64.pair I64) (out)]]⟩)) := by kernel_rfl
  rw [htree]
  clear htree
  replace hp : tuneF ((b1, b2), (o1, o2), rs) = true ∧ n = (rs.length : Int) ∧ m = n ∧ (0 ≤ d ∧ d ≤ n - 1) ∧ (0 ≤ i ∧ i ≤ n) ∧ (out.length : Int) = i := hp
  have hz : ∀ (k : Int), getT tFrac rs k = atF rs k.toNat := fun _ => rfl
  obtain ⟨ht, hn, hm0, hd, hi, ho⟩ := hp
  have hb : okF b1 b2 = true ∧ okF o1 o2 = true ∧ 1 ≤ rs.length ∧ rs.length ≤ 24 := tune_bd ht
  have hok : okFs rs = true := tune_all ht
  simp only [Tree.ok, tyd_inj, packAV, AV.same, AV.same.sameL, encV, encS, enc, inK, Nd.ok, List.headD_cons, List.cons_append, List.nil_append, List.append_nil, true_and, and_true, Bool.true_and, Bool.and_true, loop_next, weakBs_nil, weakBs_cons, weakB_self, weakB_row, weakB_int, weakL_nil, weakL_unk, weakL_guess, isRow_own, isRow_unk, weakL_int, weakL_bool, weakL_str, weakL_own, weakL_view, weakL_nilS, noRow_int, noRow_bool, own_inj, LTree.val, cond_true, cond_false, Prod.mk.injEq, List.cons.injEq, AV.int.injEq, AV.bool.injEq, AV.str.injEq, AV.agg.injEq, ann_iModeOf_0, decide_eq_true_eq, decide_eq_false_iff_not, bne_iff_ne, ne_eq, bne_eq_false_iff_eq, beq_iff_eq, beq_eq_false_iff_ne, hz]
  refine ⟨fun ha => ?_, fun ha => ?_⟩
  · have hr : (d + i).tmod n = (d + i) % n := Int.tmod_eq_emod_of_nonneg (by omega)
    have hr0 := Int.emod_nonneg (d + i) (b := n) (by omega)
    have hr1 := Int.emod_lt_of_pos (d + i) (b := n) (by omega)
    have hr2 : ((d + i) % n).toNat = (d.toNat + i.toNat) % rs.length := by
      have h0 : d + i = ((d.toNat + i.toNat : Nat) : Int) := by omega
      rw [h0, hn, ← Int.natCast_emod, Int.toNat_natCast]
    have h1 := modeGo_at ((b1, b2), (o1, o2), rs) d.toNat rs.length i.toNat (by omega)
    have hA := okFs_get hok ((d + i) % n).toNat (by omega)
    have hB := okFs_get hok d.toNat (by omega)
    have hm := mulF_ok hA hb.2.1
    have hq2 := divF_cd hA hB
    have hq1 := fun h => @divF_cd (mulF (atF rs ((d + i) % n).toNat).1 (atF rs ((d + i) % n).toNat).2 o1 o2).1.1 (mulF (atF rs ((d + i) % n).toNat).1 (atF rs ((d + i) % n).toNat).2 o1 o2).1.2 _ _ h hB
    rw [hr, show (i + 1).toNat = i.toNat + 1 by omega, h1]
    simp only [modeAt, ← hr2]
    generalize mulF (atF rs ((d + i) % n).toNat).1 (atF rs ((d + i) % n).toNat).2 o1 o2 = m at *
    obtain ⟨⟨m1, m2⟩, m3⟩ := m
    simp only at hm hq1 ⊢
    generalize divF (atF rs ((d + i) % n).toNat).1 (atF rs ((d + i) % n).toNat).2 (atF rs d.toNat).1 (atF rs d.toNat).2 = q2 at *
    generalize divF m1 m2 (atF rs d.toNat).1 (atF rs d.toNat).2 = q1 at *
    obtain ⟨⟨q11, q12⟩, q13⟩ := q1
    obtain ⟨⟨q21, q22⟩, q23⟩ := q2
    simp only at hq1 hq2 ⊢
    generalize modeGo ((b1, b2), (o1, o2), rs) d.toNat (rs.length - (i.toNat + 1)) (i.toNat + 1) = G at *
    clear h1
    simp only [List.length_append, List.length_cons, List.length_nil, List.append_assoc, List.singleton_append]
    by_cases k1 : rs.length ≤ d.toNat + i.toNat
    · simp only [if_pos k1]
      by_cases k2 : m3 = 0
      · have hq1 := hq1 (by rcases hm with h | h; exact h.2; omega)
        simp only [if_pos k2]
        by_cases k3 : q13 = 0
        · simp only [if_pos k3]
          repeat' first | apply And.intro | intro _
          all_goals first | omega | assumption | trivial | rfl
        · simp only [if_neg k3, List.append_nil]
          repeat' first | apply And.intro | intro _
          all_goals first | omega | assumption | trivial | rfl | (simp [Tree.ok, tyd_inj, packAV, AV.same, AV.same.sameL, encV, encS, enc, inK, Nd.ok, List.headD_cons, List.cons_append, List.nil_append, List.append_nil, true_and, and_true, Bool.true_and, Bool.and_true, loop_next, weakBs_nil, weakBs_cons, weakB_self, weakB_row, weakB_int, weakL_nil, weakL_unk, weakL_guess, isRow_own, isRow_unk, weakL_int, weakL_bool, weakL_str, weakL_own, weakL_view, weakL_nilS, noRow_int, noRow_bool, own_inj, LTree.val, cond_true, cond_false, Prod.mk.injEq, List.cons.injEq, AV.int.injEq, AV.bool.injEq, AV.str.injEq, AV.agg.injEq]; done) | (simp [Tree.ok, tyd_inj, packAV, AV.same, AV.same.sameL, encV, encS, enc, inK, Nd.ok, List.headD_cons, List.cons_append, List.nil_append, List.append_nil, true_and, and_true, Bool.true_and, Bool.and_true, loop_next, weakBs_nil, weakBs_cons, weakB_self, weakB_row, weakB_int, weakL_nil, weakL_unk, weakL_guess, isRow_own, isRow_unk, weakL_int, weakL_bool, weakL_str, weakL_own, weakL_view, weakL_nilS, noRow_int, noRow_bool, own_inj, LTree.val, cond_true, cond_false, Prod.mk.injEq, List.cons.injEq, AV.int.injEq, AV.bool.injEq, AV.str.injEq, AV.agg.injEq]; omega)
      · simp only [if_neg k2, show ¬((2 : Int) = 0) by omega, if_false, List.append_nil]
        repeat' first | apply And.intro | intro _
        all_goals first | omega | assumption | trivial | rfl | (simp [Tree.ok, tyd_inj, packAV, AV.same, AV.same.sameL, encV, encS, enc, inK, Nd.ok, List.headD_cons, List.cons_append, List.nil_append, List.append_nil, true_and, and_true, Bool.true_and, Bool.and_true, loop_next, weakBs_nil, weakBs_cons, weakB_self, weakB_row, weakB_int, weakL_nil, weakL_unk, weakL_guess, isRow_own, isRow_unk, weakL_int, weakL_bool, weakL_str, weakL_own, weakL_view, weakL_nilS, noRow_int, noRow_bool, own_inj, LTree.val, cond_true, cond_false, Prod.mk.injEq, List.cons.injEq, AV.int.injEq, AV.bool.injEq, AV.str.injEq, AV.agg.injEq]; done) | (simp [Tree.ok, tyd_inj, packAV, AV.same, AV.same.sameL, encV, encS, enc, inK, Nd.ok, List.headD_cons, List.cons_append, List.nil_append, List.append_nil, true_and, and_true, Bool.true_and, Bool.and_true, loop_next, weakBs_nil, weakBs_cons, weakB_self, weakB_row, weakB_int, weakL_nil, weakL_unk, weakL_guess, isRow_own, isRow_unk, weakL_int, weakL_bool, weakL_str, weakL_own, weakL_view, weakL_nilS, noRow_int, noRow_bool, own_inj, LTree.val, cond_true, cond_false, Prod.mk.injEq, List.cons.injEq, AV.int.injEq, AV.bool.injEq, AV.str.injEq, AV.agg.injEq]; omega)
    · simp only [if_neg k1]
      by_cases k3 : q23 = 0
      · simp only [if_pos k3]
        repeat' first | apply And.intro | intro _
        all_goals first | omega | assumption | trivial | rfl
      · simp only [if_neg k3, List.append_nil]
        repeat' first | apply And.intro | intro _
        all_goals first | omega | assumption | trivial | rfl | (simp [Tree.ok, tyd_inj, packAV, AV.same, AV.same.sameL, encV, encS, enc, inK, Nd.ok, List.headD_cons, List.cons_append, List.nil_append, List.append_nil, true_and, and_true, Bool.true_and, Bool.and_true, loop_next, weakBs_nil, weakBs_cons, weakB_self, weakB_row, weakB_int, weakL_nil, weakL_unk, weakL_guess, isRow_own, isRow_unk, weakL_int, weakL_bool, weakL_str, weakL_own, weakL_view, weakL_nilS, noRow_int, noRow_bool, own_inj, LTree.val, cond_true, cond_false, Prod.mk.injEq, List.cons.injEq, AV.int.injEq, AV.bool.injEq, AV.str.injEq, AV.agg.injEq]; done) | (simp [Tree.ok, tyd_inj, packAV, AV.same, AV.same.sameL, encV, encS, enc, inK, Nd.ok, List.headD_cons, List.cons_append, List.nil_append, List.append_nil, true_and, and_true, Bool.true_and, Bool.and_true, loop_next, weakBs_nil, weakBs_cons, weakB_self, weakB_row, weakB_int, weakL_nil, weakL_unk, weakL_guess, isRow_own, isRow_unk, weakL_int, weakL_bool, weakL_str, weakL_own, weakL_view, weakL_nilS, noRow_int, noRow_bool, own_inj, LTree.val, cond_true, cond_false, Prod.mk.injEq, List.cons.injEq, AV.int.injEq, AV.bool.injEq, AV.str.injEq, AV.agg.injEq]; omega)
  · rw [show rs.length - i.toNat = 0 by omega]
    simp [Tree.ok, tyd_inj, packAV, AV.same, AV.same.sameL, encV, encS, enc, inK, Nd.ok, List.headD_cons, List.cons_append, List.nil_append, List.append_nil, true_and, and_true, Bool.true_and, Bool.and_true, loop_next, weakBs_nil, weakBs_cons, weakB_self, weakB_row, weakB_int, weakL_nil, weakL_unk, weakL_guess, isRow_own, isRow_unk, weakL_int, weakL_bool, weakL_str, weakL_own, weakL_view, weakL_nilS, noRow_int, noRow_bool, own_inj, LTree.val, cond_true, cond_false, Prod.mk.injEq, List.cons.injEq, AV.int.injEq, AV.bool.injEq, AV.str.injEq, AV.agg.injEq, modeGo]
theorem loops_iModeOf : ∀ c, Try.f25.body = some c → LoopsOk Try.prog (addL (firstId (loopAt Try.f25 0)) ann_iModeOf_0 noL) Try.f25.ntmps c := loopsN fun i hi ann h => by
  have hn : loopN Try.f25 = 1 := by kernel_rfl
  rw [hn] at hi
  exact match i, hi, h with
    | 0, _, h => (Option.some.inj ((show (addL (firstId (loopAt Try.f25 0)) ann_iModeOf_0 noL) (firstId (loopAt Try.f25 0)) = some ann_iModeOf_0 from by kernel_rfl).symm.trans h)) ▸ loop_iModeOf_0
set_option maxHeartbeats 1000000 in
theorem sat_iModeOf : Sat Try.prog 25 ct_iModeOf := by
  refine sat_typed (C := C_Fl) (L := (addL (firstId (loopAt Try.f25 0)) ann_iModeOf_0 noL)) (wr := false) mixedOk Try.func25 C_Fl_ok (loops_iModeOf) (fun _ => by first | rfl | (simp [ownsOf, ownsOf.ownsL, enc, encV, encS])) fun x hp => ?_
  obtain ⟨(x : tTuning.den), (d : Int), _⟩ := x
  replace hp : (x.2.2 : List tFrac.den).length ≤ 16777215 := hp
  have htree : exFunc Try.prog C_Fl false (addL (firstId (loopAt Try.f25 0)) ann_iModeOf_0 noL) Try.f25 (encA [.s tTuning, .v (.int .i64)] (x, d, ())) = .need ((↑(List.length x.snd.snd) : Int) ≤ (9223372036854775807 : Int)) (.ite (!tuneF ((x.fst.fst, x.fst.snd), (x.snd.fst.fst, x.snd.fst.snd), x.snd.snd)) (.leaf [.agg [.int .i64 ((0 : Int)), .int .i64 ((0 : Int)), .int .i64 ((0 : Int)), .int .i64 ((0 : Int)), .nilS], .int .i64 ((1 : Int))]) (.need ((↑(List.length x.snd.snd) : Int) ≤ (9223372036854775807 : Int)) (.need (inK IntKind.i64 ((↑(List.length x.snd.snd) : Int) - (1 : Int))) (.ite (!inB d (0 : Int) ((↑(List.length x.snd.snd) : Int) - (1 : Int))) (.leaf [.agg [.int .i64 ((0 : Int)), .int .i64 ((0 : Int)), .int .i64 ((0 : Int)), .int .i64 ((0 : Int)), .nilS], .int .i64 ((2 : Int))]) (.need (tuneF ((x.fst.fst, x.fst.snd), (x.snd.fst.fst, x.snd.fst.snd), x.snd.snd) = true ∧ (↑(List.length x.snd.snd) : Int) = (↑(List.length x.snd.snd) : Int) ∧ (↑(List.length x.snd.snd) : Int) = (↑(List.length x.snd.snd) : Int) ∧ ((0 : Int) ≤ d ∧ d ≤ (↑(List.length x.snd.snd) : Int) - (1 : Int)) ∧ ((0 : Int) ≤ (0 : Int) ∧ (0 : Int) ≤ (↑(List.length x.snd.snd) : Int)) ∧ (↑(0 : Nat) : Int) = (0 : Int)) (.ite (decide ((modeGo ((x.fst.fst, x.fst.snd), (x.snd.fst.fst, x.snd.fst.snd), x.snd.snd) d.toNat (List.length x.snd.snd - Int.toNat (0 : Int)) (Int.toNat (0 : Int))).snd = (0 : Int))) (.leaf [.agg [.int .i64 (x.fst.fst), .int .i64 (x.fst.snd), .int .i64 (x.snd.fst.fst), .int .i64 (x.snd.fst.snd), .own (I64.pair I64) ([] ++ (modeGo ((x.fst.fst, x.fst.snd), (x.snd.fst.fst, x.snd.fst.snd), x.snd.snd) d.toNat (List.length x.snd.snd - Int.toNat (0 : Int)) (Int.toNat (0 : Int))).fst)], .int .i64 ((0 : Int))]) (.leaf [.agg [.int .i64 ((0 : Int)), .int .i64 ((0 : Int)), .int .i64 ((0 : Int)), .int .i64 ((0 : Int)), .nilS], .int .i64 ((2 : Int))]))))))) := by kernel_rfl
  refine (congrArg (Tree.ok _) htree).mpr ?_
  clear htree
  obtain ⟨⟨b1, b2⟩, ⟨o1, o2⟩, rs⟩ := x
  have hp : rs.length ≤ 16777215 := hp
  simp only [Tree.ok, tyd_inj, packAV, AV.same, AV.same.sameL, encV, encS, enc, inK, Nd.ok, List.headD_cons, List.cons_append, List.nil_append, List.append_nil, true_and, and_true, Bool.true_and, Bool.and_true, modeF, Bool.not_eq_true', Bool.not_eq_false', Int.toNat_zero, Nat.sub_zero]
  by_cases h : tuneF ((b1, b2), (o1, o2), rs) = true
  · have hb : okF b1 b2 = true ∧ okF o1 o2 = true ∧ 1 ≤ rs.length ∧ rs.length ≤ 24 := tune_bd h
    simp only [h, Bool.true_eq_false, false_implies, true_implies, if_true]
    by_cases k : 0 ≤ d ∧ d ≤ (rs.length : Int) - 1
    · simp only [if_pos k, (inB_iff d 0 _).2 k, Bool.true_eq_false, false_implies, true_implies]
      by_cases k2 : (modeGo ((b1, b2), (o1, o2), rs) d.toNat rs.length 0).2 = 0
      · simp only [if_pos k2, decide_eq_true_eq, decide_eq_false_iff_not]
        repeat' first | apply And.intro | intro _
        all_goals first | omega | assumption | trivial | rfl
      · simp only [if_neg k2, decide_eq_true_eq, decide_eq_false_iff_not]
        repeat' first | apply And.intro | intro _
        all_goals first | omega | assumption | trivial | rfl
    · simp only [if_neg k, (inB_no d 0 _).2 k, Bool.false_eq_true, false_implies, true_implies]
      repeat' first | apply And.intro | intro _
      all_goals first | omega | assumption | trivial | rfl
  · rw [Bool.not_eq_true] at h
    simp [h, Tree.ok, tyd_inj, packAV, AV.same, AV.same.sameL, encV, encS, enc, inK, Nd.ok, List.headD_cons, List.cons_append, List.nil_append, List.append_nil, true_and, and_true, Bool.true_and, Bool.and_true]
    try omega
def C_Fm_1 : FuncId → Option Ct := addC 25 ct_iModeOf C_Fl
theorem C_Fm_1_ok : COk Try.prog C_Fm_1 := addC_ok C_Fl_ok sat_iModeOf

def C_Fm : FuncId → Option Ct := C_Fm_1
theorem C_Fm_ok : COk Try.prog C_Fm := C_Fm_1_ok
end Go.Proofs.Ytjgjcggecikdpaa
