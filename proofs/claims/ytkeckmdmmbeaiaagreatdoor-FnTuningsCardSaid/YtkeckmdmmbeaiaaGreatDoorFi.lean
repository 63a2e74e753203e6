/- Contracts: frequencies of keys, of the program and the reference (under way). Conditions: as each says. -/
import Derived.Test.YtkeckmdmmbeaiaaGreatDoorFh
set_option linter.unusedSimpArgs false
set_option linter.unusedVariables false
namespace Go.Proofs.YtkeckmdmmbeaiaaGreatDoor
open Go.RowKit Sx
set_option maxRecDepth 100000
set_option maxHeartbeats 1000000
theorem gcd_sign (n d : Int) (s : Bool) : Int.gcd (if s = true then -n else n) d = Int.gcd n d := by
  cases s <;> simp
theorem mkF_ok {n d : Int} (hd : d ≠ 0) (h : (mkF n d).2 = 0) : okF (mkF n d).1.1 (mkF n d).1.2 = true := by
  have hb := mkF_bd hd h
  rw [mkF_pos n d hd] at h hb ⊢
  split at h
  · simp at h
  · rename_i hc
    rw [if_neg hc] at hb ⊢
    simp only [okF, Bool.and_eq_true, inB_iff, beq_iff_eq]
    refine ⟨hb.1, hb.2, ?_⟩
    rw [gcd_sign]
    have hg : 0 < Nat.gcd n.natAbs d.natAbs := Nat.gcd_pos_of_pos_right _ (by omega)
    have := Nat.coprime_div_gcd_div_gcd hg
    show ((Nat.gcd ((n.natAbs : Int) / ((Nat.gcd n.natAbs d.natAbs : Nat) : Int)).natAbs ((d.natAbs : Int) / ((Nat.gcd n.natAbs d.natAbs : Nat) : Int)).natAbs : Nat) : Int) = 1
    rw [← Int.natCast_ediv, ← Int.natCast_ediv, Int.natAbs_natCast, Int.natAbs_natCast]
    exact_mod_cast this
theorem mkF_code (n d : Int) (hd : d ≠ 0) : (mkF n d).2 = 0 ∨ (mkF n d).2 = 2 ∧ (mkF n d).1 = (0, 0) := by
  rw [mkF_pos n d hd]
  split
  · exact .inr ⟨rfl, rfl⟩
  · exact .inl rfl
theorem mulF_ok {a b c d : Int} (h1 : okF a b = true) (h2 : okF c d = true) : ((mulF a b c d).2 = 0 ∧ okF (mulF a b c d).1.1 (mulF a b c d).1.2 = true) ∨ ((mulF a b c d).2 = 2 ∧ (mulF a b c d).1 = (0, 0)) := by
  have g := mul_bd2 (okF_bd h1).1 (okF_bd h2).1
  have e : mulF a b c d = mkF (a * c) (b * d) := by
    unfold mulF opF
    rw [h1, h2]; rfl
  rw [e]
  rcases mkF_code (a * c) (b * d) (by omega) with h | h
  · exact .inl ⟨h, mkF_ok (by omega) h⟩
  · exact .inr h
def freqGo (oa ob : Int) : Nat → Int × Int → (Int × Int) × Int
  | 0, e => (e, 0)
  | n + 1, e => if (mulF e.1 e.2 oa ob).2 = 0 then freqGo oa ob n (mulF e.1 e.2 oa ob).1 else (e, 2)
theorem freqGo_go (oa ob m i : Int) (e : Int × Int) (h0 : 0 ≤ i) (h : i < m) : freqGo oa ob (m - i).toNat e = if (mulF e.1 e.2 oa ob).2 = 0 then freqGo oa ob (m - (i + 1)).toNat (mulF e.1 e.2 oa ob).1 else (e, 2) := by
  rw [show (m - i).toNat = (m - (i + 1)).toNat + 1 by omega]; rfl
theorem freqGo_ok {oa ob : Int} (ho : okF oa ob = true) : ∀ (n : Nat) (e : Int × Int), okF e.1 e.2 = true → okF (freqGo oa ob n e).1.1 (freqGo oa ob n e).1.2 = true
  | 0, _, h => h
  | n + 1, e, h => by
    unfold freqGo
    split
    · rename_i hc
      rcases mulF_ok h ho with g | g
      · exact freqGo_ok ho n _ g.2
      · omega
    · exact h
def freqF (x : tTuning.den) (key : Int) : (Int × Int) × Int :=
  if (freqGo x.2.1.1 x.2.1.2 (key / ((x.2.2 : List tFrac.den).length : Int)).toNat x.1).2 = 0 then mulF (freqGo x.2.1.1 x.2.1.2 (key / ((x.2.2 : List tFrac.den).length : Int)).toNat x.1).1.1 (freqGo x.2.1.1 x.2.1.2 (key / ((x.2.2 : List tFrac.den).length : Int)).toNat x.1).1.2 (atF x.2.2 (key % ((x.2.2 : List tFrac.den).length : Int)).toNat).1 (atF x.2.2 (key % ((x.2.2 : List tFrac.den).length : Int)).toNat).2 else ((0, 0), 2)
theorem tune_bd {x : tTuning.den} (h : tuneF x = true) : okF x.1.1 x.1.2 = true ∧ okF x.2.1.1 x.2.1.2 = true ∧ 1 ≤ (x.2.2 : List tFrac.den).length ∧ (x.2.2 : List tFrac.den).length ≤ 24 := by
  simp only [tuneF, Bool.and_eq_true, decide_eq_true_eq] at h
  exact ⟨h.1, h.2.2.1, h.2.2.2.2.1⟩
theorem div_key (key n : Int) (h0 : 0 ≤ key ∧ key ≤ 127) (h1 : 1 ≤ n) : (0 ≤ key / n ∧ key / n ≤ 127) ∧ (0 ≤ key % n ∧ key % n < n) :=
  ⟨⟨(div_bd key n h0.1 h1).1, by have := (div_bd key n h0.1 h1).2; omega⟩, Int.emod_nonneg _ (by omega), Int.emod_lt_of_pos _ (by omega)⟩
def ann_frequencyOf_0 : LAnn := { sameS := [1, 2, 4, 6, 7, 16], modS := [5, 8, 17], sameH := [2], modH := [4, 7], base := 900000, nilE := [], nilB := [], G := fun
  | ⟨[.int .i64 key, .ptr 2 0, .ptr 4 0, .int .i64 n, .ptr 7 0, .int .i64 m], [.box [.int .i64 b1, .int .i64 b2, .int .i64 oa, .int .i64 ob, .view (.pair (.int .i64) (.int .i64)) rs]], [.int .i64 c5, .int .i64 c8, .int .i64 i], [[.int .i64 z1, .int .i64 z2], [.int .i64 a, .int .i64 b]]⟩ => some (.p ((0 ≤ i ∧ i ≤ m) ∧ m ≤ 127 ∧ okF oa ob = true ∧ okF a b = true), .ite (decide ((freqGo oa ob (m - i).toNat (a, b)).2 = 0)) (.leaf (.exit 0) [.int .i64 c5, .unk, .int .i64 m] [[.int .i64 z1, .int .i64 z2], [.int .i64 (freqGo oa ob (m - i).toNat (a, b)).1.1, .int .i64 (freqGo oa ob (m - i).toNat (a, b)).1.2]]) (.leaf .ret [.int .i64 2, .unk, .unk] [[.int .i64 0, .int .i64 0], [.int .i64 0, .int .i64 0]]))
  | _ => none }
def ct_frequencyOf : Ct := ctOf [.s tTuning, .v (.int .i64)] (fun ((x : tTuning.den), (key : Int), _) => .p (tuneF x = true ∧ (0 ≤ key ∧ key ≤ 127))) (fun ((x : tTuning.den), (key : Int), _) => .tup [.agg (enc tFrac (freqF x key).1), .int .i64 (freqF x key).2])
set_option maxHeartbeats 1000000 in
theorem loop_frequencyOf_0 : LoopSat Tryz.prog Tryz.f76.ntmps (loopAt Tryz.f76 0) ann_frequencyOf_0 := by
  refine loopSat_of (C := C_Fh) (L := (addL (firstId (loopAt Tryz.f76 0)) ann_frequencyOf_0 noL)) (wr := false) mixedOk C_Fh_ok (loopsIn0 (by kernel_rfl)) (fun d => match d.same, d.vals with | [_, _, _, _, _, .int _ m], [_, _, .int _ i] => (m - i).toNat | _, _ => 0) fun d p t hG hp => ?_
  simp only [ann_frequencyOf_0] at hG
  split at hG
  rotate_left
  · simp at hG
  rename_i key n m b1 b2 oa ob rs c5 c8 i z1 z2 a b
  simp only [Option.some.injEq, Prod.mk.injEq] at hG
  obtain ⟨rfl, rfl⟩ := hG
  have htree : exRound Tryz.prog C_Fh false (addL (firstId (loopAt Tryz.f76 0)) ann_frequencyOf_0 noL) Tryz.f76.ntmps ann_frequencyOf_0 (loopAt Tryz.f76 0) ⟨[.int .i64 key, .ptr 2 0, .ptr 4 0, .int .i64 n, .ptr 7 0, .int .i64 m], [.box [.int .i64 b1, .int .i64 b2, .int .i64 oa, .int .i64 ob, .view tFrac rs]], [.int .i64 c5, .int .i64 c8, .int .i64 i], [[.int .i64 z1, .int .i64 z2], [.int .i64 a, .int .i64 b]]⟩ = .ite (decide (i < m)) (.ite ((mulF a b oa ob).snd != (0 : Int)) (.leaf (.ret, ⟨[.int .i64 (key), .ptr 2 0, .ptr 4 0, .int .i64 (n), .ptr 7 0, .int .i64 (m)], [.box [.int .i64 (b1), .int .i64 (b2), .int .i64 (oa), .int .i64 (ob), .view (I64.pair I64) (rs)]], [.int .i64 ((mulF a b oa ob).snd), .int .i64 ((mulF a b oa ob).snd), .int .i64 (i)], [[.int .i64 ((0 : Int)), .int .i64 ((0 : Int))], [.int .i64 ((mulF a b oa ob).fst.fst), .int .i64 ((mulF a b oa ob).fst.snd)]]⟩)) (.need (inK IntKind.i64 (i + (1 : Int))) (.leaf (.normal, ⟨[.int .i64 (key), .ptr 2 0, .ptr 4 0, .int .i64 (n), .ptr 7 0, .int .i64 (m)], [.box [.int .i64 (b1), .int .i64 (b2), .int .i64 (oa), .int .i64 (ob), .view (I64.pair I64) (rs)]], [.int .i64 (c5), .int .i64 ((mulF a b oa ob).snd), .int .i64 (i + (1 : Int))], [[.int .i64 (z1), .int .i64 (z2)], [.int .i64 ((mulF a b oa ob).fst.fst), .int .i64 ((mulF a b oa ob).fst.snd)]]⟩)))) (.leaf ((.exit 0), ⟨[.int .i64 (key), .ptr 2 0, .ptr 4 0, .int .i64 (n), .ptr 7 0, .int .i64 (m)], [.box [.int .i64 (b1), .int .i64 (b2), .int .i64 (oa), .int .i64 (ob), .view (I64.pair I64) (rs)]], [.int .i64 (c5), .int .i64 (c8), .int .i64 (i)], [[.int .i64 (z1), .int .i64 (z2)], [.int .i64 (a), .int .i64 (b)]]⟩)) := by kernel_rfl
  rw [htree]
  clear htree
  replace hp : (0 ≤ i ∧ i ≤ m) ∧ m ≤ 127 ∧ okF oa ob = true ∧ okF a b = true := hp
  obtain ⟨hi, hm, ho, hab⟩ := hp
  have hk := mulF_ok hab ho
  simp only [Tree.ok, tyd_inj, packAV, AV.same, AV.same.sameL, encV, encS, enc, inK, Nd.ok, List.headD_cons, List.cons_append, List.nil_append, List.append_nil, true_and, and_true, Bool.true_and, Bool.and_true, loop_next, weakBs_nil, weakBs_cons, weakB_self, weakB_row, weakB_int, weakL_nil, weakL_unk, weakL_guess, isRow_own, isRow_unk, weakL_int, weakL_bool, weakL_str, weakL_own, weakL_view, weakL_nilS, noRow_int, noRow_bool, own_inj, LTree.val, cond_true, cond_false, Prod.mk.injEq, List.cons.injEq, AV.int.injEq, AV.bool.injEq, AV.str.injEq, AV.agg.injEq, ann_frequencyOf_0, decide_eq_true_eq, decide_eq_false_iff_not, bne_iff_ne, ne_eq, bne_eq_false_iff_eq]
  refine ⟨fun ha => ?_, fun ha => ?_⟩
  · have h1 := freqGo_go oa ob m i (a, b) hi.1 ha
    simp only at h1
    rw [h1]
    generalize mulF a b oa ob = q at *
    obtain ⟨⟨q1, q2⟩, q3⟩ := q
    simp only at hk ⊢
    by_cases hc : q3 = 0
    · rw [if_pos hc]
      repeat' first | apply And.intro | intro _
      all_goals first | omega | assumption | rfl | grind
    · rw [if_neg hc]
      repeat' first | apply And.intro | intro _
      all_goals first | omega | assumption | (simp [Tree.ok, tyd_inj, packAV, AV.same, AV.same.sameL, encV, encS, enc, inK, Nd.ok, List.headD_cons, List.cons_append, List.nil_append, List.append_nil, true_and, and_true, Bool.true_and, Bool.and_true, loop_next, weakBs_nil, weakBs_cons, weakB_self, weakB_row, weakB_int, weakL_nil, weakL_unk, weakL_guess, isRow_own, isRow_unk, weakL_int, weakL_bool, weakL_str, weakL_own, weakL_view, weakL_nilS, noRow_int, noRow_bool, own_inj, LTree.val, cond_true, cond_false, Prod.mk.injEq, List.cons.injEq, AV.int.injEq, AV.bool.injEq, AV.str.injEq, AV.agg.injEq]; done) | (simp [Tree.ok, tyd_inj, packAV, AV.same, AV.same.sameL, encV, encS, enc, inK, Nd.ok, List.headD_cons, List.cons_append, List.nil_append, List.append_nil, true_and, and_true, Bool.true_and, Bool.and_true, loop_next, weakBs_nil, weakBs_cons, weakB_self, weakB_row, weakB_int, weakL_nil, weakL_unk, weakL_guess, isRow_own, isRow_unk, weakL_int, weakL_bool, weakL_str, weakL_own, weakL_view, weakL_nilS, noRow_int, noRow_bool, own_inj, LTree.val, cond_true, cond_false, Prod.mk.injEq, List.cons.injEq, AV.int.injEq, AV.bool.injEq, AV.str.injEq, AV.agg.injEq]; grind) | grind
  · obtain rfl : i = m := by omega
    rw [show (i - i).toNat = 0 by omega]
    simp [Tree.ok, tyd_inj, packAV, AV.same, AV.same.sameL, encV, encS, enc, inK, Nd.ok, List.headD_cons, List.cons_append, List.nil_append, List.append_nil, true_and, and_true, Bool.true_and, Bool.and_true, loop_next, weakBs_nil, weakBs_cons, weakB_self, weakB_row, weakB_int, weakL_nil, weakL_unk, weakL_guess, isRow_own, isRow_unk, weakL_int, weakL_bool, weakL_str, weakL_own, weakL_view, weakL_nilS, noRow_int, noRow_bool, own_inj, LTree.val, cond_true, cond_false, Prod.mk.injEq, List.cons.injEq, AV.int.injEq, AV.bool.injEq, AV.str.injEq, AV.agg.injEq, freqGo]
theorem loops_frequencyOf : ∀ c, Tryz.f76.body = some c → LoopsOk Tryz.prog (addL (firstId (loopAt Tryz.f76 0)) ann_frequencyOf_0 noL) Tryz.f76.ntmps c := loopsN fun i hi ann h => by
  have hn : loopN Tryz.f76 = 1 := by kernel_rfl
  rw [hn] at hi
  exact match i, hi, h with
    | 0, _, h => (Option.some.inj ((show (addL (firstId (loopAt Tryz.f76 0)) ann_frequencyOf_0 noL) (firstId (loopAt Tryz.f76 0)) = some ann_frequencyOf_0 from by kernel_rfl).symm.trans h)) ▸ loop_frequencyOf_0
set_option maxHeartbeats 1000000 in
theorem sat_frequencyOf : Sat Tryz.prog 76 ct_frequencyOf := by
  refine sat_typed (C := C_Fh) (L := (addL (firstId (loopAt Tryz.f76 0)) ann_frequencyOf_0 noL)) (wr := false) mixedOk Tryz.func76 C_Fh_ok (loops_frequencyOf) (fun _ => by first | rfl | (simp [ownsOf, ownsOf.ownsL, enc, encV, encS])) fun x hp => ?_
  obtain ⟨(x : tTuning.den), (key : Int), _⟩ := x
  replace hp : tuneF x = true ∧ (0 ≤ key ∧ key ≤ 127) := hp
  have htree : exFunc Tryz.prog C_Fh false (addL (firstId (loopAt Tryz.f76 0)) ann_frequencyOf_0 noL) Tryz.f76 (encA [.s tTuning, .v (.int .i64)] (x, key, ())) = .need ((↑(List.length x.snd.snd) : Int) ≤ (9223372036854775807 : Int)) (.need ((↑(List.length x.snd.snd) : Int) ≠ (0 : Int) ∧ inK IntKind.i64 (key.tdiv (↑(List.length x.snd.snd) : Int))) (.need (((0 : Int) ≤ (0 : Int) ∧ (0 : Int) ≤ key.tdiv (↑(List.length x.snd.snd) : Int)) ∧ key.tdiv (↑(List.length x.snd.snd) : Int) ≤ (127 : Int) ∧ okF x.snd.fst.fst x.snd.fst.snd = true ∧ okF x.fst.fst x.fst.snd = true) (.ite (decide ((freqGo x.snd.fst.fst x.snd.fst.snd (key.tdiv (↑(List.length x.snd.snd) : Int) - (0 : Int)).toNat (x.fst.fst, x.fst.snd)).snd = (0 : Int))) (.need ((↑(List.length x.snd.snd) : Int) ≠ (0 : Int)) (.need ((0 : Int) ≤ key.tmod (↑(List.length x.snd.snd) : Int) ∧ key.tmod (↑(List.length x.snd.snd) : Int) < (↑(List.length x.snd.snd) : Int)) (.leaf [.agg [.int .i64 ((mulF (freqGo x.snd.fst.fst x.snd.fst.snd (key.tdiv (↑(List.length x.snd.snd) : Int) - (0 : Int)).toNat (x.fst.fst, x.fst.snd)).fst.fst (freqGo x.snd.fst.fst x.snd.fst.snd (key.tdiv (↑(List.length x.snd.snd) : Int) - (0 : Int)).toNat (x.fst.fst, x.fst.snd)).fst.snd (getT tFrac x.snd.snd (key.tmod (↑(List.length x.snd.snd) : Int))).fst (getT tFrac x.snd.snd (key.tmod (↑(List.length x.snd.snd) : Int))).snd).fst.fst), .int .i64 ((mulF (freqGo x.snd.fst.fst x.snd.fst.snd (key.tdiv (↑(List.length x.snd.snd) : Int) - (0 : Int)).toNat (x.fst.fst, x.fst.snd)).fst.fst (freqGo x.snd.fst.fst x.snd.fst.snd (key.tdiv (↑(List.length x.snd.snd) : Int) - (0 : Int)).toNat (x.fst.fst, x.fst.snd)).fst.snd (getT tFrac x.snd.snd (key.tmod (↑(List.length x.snd.snd) : Int))).fst (getT tFrac x.snd.snd (key.tmod (↑(List.length x.snd.snd) : Int))).snd).fst.snd)], .int .i64 ((mulF (freqGo x.snd.fst.fst x.snd.fst.snd (key.tdiv (↑(List.length x.snd.snd) : Int) - (0 : Int)).toNat (x.fst.fst, x.fst.snd)).fst.fst (freqGo x.snd.fst.fst x.snd.fst.snd (key.tdiv (↑(List.length x.snd.snd) : Int) - (0 : Int)).toNat (x.fst.fst, x.fst.snd)).fst.snd (getT tFrac x.snd.snd (key.tmod (↑(List.length x.snd.snd) : Int))).fst (getT tFrac x.snd.snd (key.tmod (↑(List.length x.snd.snd) : Int))).snd).snd)]))) (.leaf [.agg [.int .i64 ((0 : Int)), .int .i64 ((0 : Int))], .int .i64 ((2 : Int))])))) := by kernel_rfl
  refine (congrArg (Tree.ok _) htree).mpr ?_
  clear htree
  have hz : ∀ (l : List tFrac.den) (k : Int), getT tFrac l k = atF l k.toNat := fun _ _ => rfl
  have hb := tune_bd hp.1
  have hd := div_key key ((x.2.2 : List tFrac.den).length : Int) hp.2 (by omega)
  rw [Int.tdiv_eq_ediv_of_nonneg hp.2.1, Int.tmod_eq_emod_of_nonneg hp.2.1]
  simp only [Tree.ok, tyd_inj, packAV, AV.same, AV.same.sameL, encV, encS, enc, inK, Nd.ok, List.headD_cons, List.cons_append, List.nil_append, List.append_nil, true_and, and_true, Bool.true_and, Bool.and_true, hz, freqF, Int.sub_zero]
  repeat' first | apply And.intro | intro _
  all_goals first | omega | exact hb.1 | exact hb.2.1 | simp_all
def C_Fi_1 : FuncId → Option Ct := addC 76 ct_frequencyOf C_Fh
theorem C_Fi_1_ok : COk Tryz.prog C_Fi_1 := addC_ok C_Fh_ok sat_frequencyOf
theorem freqGo_dn (oa ob k : Int) (e : Int × Int) (h : 0 < k) : freqGo oa ob k.toNat e = if (mulF e.1 e.2 oa ob).2 = 0 then freqGo oa ob (k - 1).toNat (mulF e.1 e.2 oa ob).1 else (e, 2) := by
  rw [show k.toNat = (k - 1).toNat + 1 by omega]; rfl
def ann_l15Key_0 : LAnn := { sameS := [0, 1, 4, 6, 7], modS := [5, 8], sameH := [], modH := [4, 7], base := 900000, nilE := [], nilB := [], G := fun
  | ⟨[.velt (.pair (.pair (.int .i64) (.int .i64)) (.pair (.pair (.int .i64) (.int .i64)) (.seq (.pair (.int .i64) (.int .i64))))) x 0, .int .i64 key, .ptr 4 0, .int .i64 n, .ptr 7 0], [], [.int .i64 c5, .int .i64 k], [[.int .i64 z1, .int .i64 z2], [.int .i64 a, .int .i64 b]]⟩ => some (.p ((0 ≤ k ∧ k ≤ 127) ∧ okF x.2.1.1 x.2.1.2 = true ∧ okF a b = true), .ite (decide ((freqGo x.2.1.1 x.2.1.2 k.toNat (a, b)).2 = 0)) (.leaf (.exit 0) [.int .i64 c5, .int .i64 0] [[.int .i64 z1, .int .i64 z2], [.int .i64 (freqGo x.2.1.1 x.2.1.2 k.toNat (a, b)).1.1, .int .i64 (freqGo x.2.1.1 x.2.1.2 k.toNat (a, b)).1.2]]) (.leaf .ret [.int .i64 2, .unk] [[.int .i64 0, .int .i64 0], [.int .i64 (freqGo x.2.1.1 x.2.1.2 k.toNat (a, b)).1.1, .int .i64 (freqGo x.2.1.1 x.2.1.2 k.toNat (a, b)).1.2]]))
  | _ => none }
def ct_l15Key : Ct := ctOf [.p tTuning, .v (.int .i64)] (fun ((x : tTuning.den), (key : Int), _) => .p (tuneF x = true ∧ (0 ≤ key ∧ key ≤ 127))) (fun ((x : tTuning.den), (key : Int), _) => .tup [.agg (enc tFrac (freqF x key).1), .int .i64 (freqF x key).2])
set_option maxHeartbeats 1000000 in
theorem loop_l15Key_0 : LoopSat Tryz.prog Tryz.f79.ntmps (loopAt Tryz.f79 0) ann_l15Key_0 := by
  refine loopSat_of (C := C_Fi_1) (L := (addL (firstId (loopAt Tryz.f79 0)) ann_l15Key_0 noL)) (wr := false) mixedOk C_Fi_1_ok (loopsIn0 (by kernel_rfl)) (fun d => match d.vals with | [_, .int _ k] => k.toNat | _ => 0) fun d p t hG hp => ?_
  simp only [ann_l15Key_0] at hG
  split at hG
  rotate_left
  · simp at hG
  rename_i x key n c5 k z1 z2 a b
  simp only [Option.some.injEq, Prod.mk.injEq] at hG
  obtain ⟨rfl, rfl⟩ := hG
  have htree : exRound Tryz.prog C_Fi_1 false (addL (firstId (loopAt Tryz.f79 0)) ann_l15Key_0 noL) Tryz.f79.ntmps ann_l15Key_0 (loopAt Tryz.f79 0) ⟨[.velt tTuning x 0, .int .i64 key, .ptr 4 0, .int .i64 n, .ptr 7 0], [], [.int .i64 c5, .int .i64 k], [[.int .i64 z1, .int .i64 z2], [.int .i64 a, .int .i64 b]]⟩ = .ite (decide ((0 : Int) < k)) (.ite ((mulF a b x.snd.fst.fst x.snd.fst.snd).snd != (0 : Int)) (.leaf (.ret, ⟨[.velt (tFrac.pair (tFrac.pair tFrac.seq)) (x) ((0 : Nat)), .int .i64 (key), .ptr 4 0, .int .i64 (n), .ptr 7 0], [], [.int .i64 ((2 : Int)), .int .i64 (k)], [[.int .i64 ((0 : Int)), .int .i64 ((0 : Int))], [.int .i64 (a), .int .i64 (b)]]⟩)) (.need (inK IntKind.i64 (k - (1 : Int))) (.leaf (.normal, ⟨[.velt (tFrac.pair (tFrac.pair tFrac.seq)) (x) ((0 : Nat)), .int .i64 (key), .ptr 4 0, .int .i64 (n), .ptr 7 0], [], [.int .i64 (c5), .int .i64 (k - (1 : Int))], [[.int .i64 (z1), .int .i64 (z2)], [.int .i64 ((mulF a b x.snd.fst.fst x.snd.fst.snd).fst.fst), .int .i64 ((mulF a b x.snd.fst.fst x.snd.fst.snd).fst.snd)]]⟩)))) (.leaf ((.exit 0), ⟨[.velt (tFrac.pair (tFrac.pair tFrac.seq)) (x) ((0 : Nat)), .int .i64 (key), .ptr 4 0, .int .i64 (n), .ptr 7 0], [], [.int .i64 (c5), .int .i64 (k)], [[.int .i64 (z1), .int .i64 (z2)], [.int .i64 (a), .int .i64 (b)]]⟩)) := by kernel_rfl
  rw [htree]
  clear htree
  replace hp : (0 ≤ k ∧ k ≤ 127) ∧ okF x.2.1.1 x.2.1.2 = true ∧ okF a b = true := hp
  obtain ⟨hi, ho, hab⟩ := hp
  have hk := mulF_ok hab ho
  simp only [Tree.ok, tyd_inj, packAV, AV.same, AV.same.sameL, encV, encS, enc, inK, Nd.ok, List.headD_cons, List.cons_append, List.nil_append, List.append_nil, true_and, and_true, Bool.true_and, Bool.and_true, loop_next, weakBs_nil, weakBs_cons, weakB_self, weakB_row, weakB_int, weakL_nil, weakL_unk, weakL_guess, isRow_own, isRow_unk, weakL_int, weakL_bool, weakL_str, weakL_own, weakL_view, weakL_nilS, noRow_int, noRow_bool, own_inj, LTree.val, cond_true, cond_false, Prod.mk.injEq, List.cons.injEq, AV.int.injEq, AV.bool.injEq, AV.str.injEq, AV.agg.injEq, ann_l15Key_0, decide_eq_true_eq, decide_eq_false_iff_not, bne_iff_ne, ne_eq, bne_eq_false_iff_eq]
  refine ⟨fun ha => ?_, fun ha => ?_⟩
  · have h1 := freqGo_dn x.2.1.1 x.2.1.2 k (a, b) ha
    simp only at h1
    rw [h1]
    generalize mulF a b x.2.1.1 x.2.1.2 = q at *
    obtain ⟨⟨q1, q2⟩, q3⟩ := q
    simp only at hk ⊢
    by_cases hc : q3 = 0
    · rw [if_pos hc]
      repeat' first | apply And.intro | intro _
      all_goals first | omega | assumption | rfl | grind
    · rw [if_neg hc]
      repeat' first | apply And.intro | intro _
      all_goals first | omega | assumption | (simp [Tree.ok, tyd_inj, packAV, AV.same, AV.same.sameL, encV, encS, enc, inK, Nd.ok, List.headD_cons, List.cons_append, List.nil_append, List.append_nil, true_and, and_true, Bool.true_and, Bool.and_true, loop_next, weakBs_nil, weakBs_cons, weakB_self, weakB_row, weakB_int, weakL_nil, weakL_unk, weakL_guess, isRow_own, isRow_unk, weakL_int, weakL_bool, weakL_str, weakL_own, weakL_view, weakL_nilS, noRow_int, noRow_bool, own_inj, LTree.val, cond_true, cond_false, Prod.mk.injEq, List.cons.injEq, AV.int.injEq, AV.bool.injEq, AV.str.injEq, AV.agg.injEq]; done) | grind
  · obtain rfl : k = 0 := by omega
    simp [Tree.ok, tyd_inj, packAV, AV.same, AV.same.sameL, encV, encS, enc, inK, Nd.ok, List.headD_cons, List.cons_append, List.nil_append, List.append_nil, true_and, and_true, Bool.true_and, Bool.and_true, loop_next, weakBs_nil, weakBs_cons, weakB_self, weakB_row, weakB_int, weakL_nil, weakL_unk, weakL_guess, isRow_own, isRow_unk, weakL_int, weakL_bool, weakL_str, weakL_own, weakL_view, weakL_nilS, noRow_int, noRow_bool, own_inj, LTree.val, cond_true, cond_false, Prod.mk.injEq, List.cons.injEq, AV.int.injEq, AV.bool.injEq, AV.str.injEq, AV.agg.injEq, freqGo]
theorem loops_l15Key : ∀ c, Tryz.f79.body = some c → LoopsOk Tryz.prog (addL (firstId (loopAt Tryz.f79 0)) ann_l15Key_0 noL) Tryz.f79.ntmps c := loopsN fun i hi ann h => by
  have hn : loopN Tryz.f79 = 1 := by kernel_rfl
  rw [hn] at hi
  exact match i, hi, h with
    | 0, _, h => (Option.some.inj ((show (addL (firstId (loopAt Tryz.f79 0)) ann_l15Key_0 noL) (firstId (loopAt Tryz.f79 0)) = some ann_l15Key_0 from by kernel_rfl).symm.trans h)) ▸ loop_l15Key_0
set_option maxHeartbeats 1000000 in
theorem sat_l15Key : Sat Tryz.prog 79 ct_l15Key := by
  refine sat_typed (C := C_Fi_1) (L := (addL (firstId (loopAt Tryz.f79 0)) ann_l15Key_0 noL)) (wr := false) mixedOk Tryz.func79 C_Fi_1_ok (loops_l15Key) (fun _ => by first | rfl | (simp [ownsOf, ownsOf.ownsL, enc, encV, encS])) fun x hp => ?_
  obtain ⟨(x : tTuning.den), (key : Int), _⟩ := x
  replace hp : tuneF x = true ∧ (0 ≤ key ∧ key ≤ 127) := hp
  have htree : exFunc Tryz.prog C_Fi_1 false (addL (firstId (loopAt Tryz.f79 0)) ann_l15Key_0 noL) Tryz.f79 (encA [.p tTuning, .v (.int .i64)] (x, key, ())) = .need ((↑(List.length x.snd.snd) : Int) ≠ (0 : Int) ∧ inK IntKind.i64 (key.tdiv (↑(List.length x.snd.snd) : Int))) (.need (((0 : Int) ≤ key.tdiv (↑(List.length x.snd.snd) : Int) ∧ key.tdiv (↑(List.length x.snd.snd) : Int) ≤ (127 : Int)) ∧ okF x.snd.fst.fst x.snd.fst.snd = true ∧ okF x.fst.fst x.fst.snd = true) (.ite (decide ((freqGo x.snd.fst.fst x.snd.fst.snd (key.tdiv (↑(List.length x.snd.snd) : Int)).toNat (x.fst.fst, x.fst.snd)).snd = (0 : Int))) (.need ((↑(List.length x.snd.snd) : Int) ≠ (0 : Int)) (.need ((0 : Int) ≤ key.tmod (↑(List.length x.snd.snd) : Int) ∧ key.tmod (↑(List.length x.snd.snd) : Int) < (↑(List.length x.snd.snd) : Int)) (.leaf [.agg [.int .i64 ((mulF (freqGo x.snd.fst.fst x.snd.fst.snd (key.tdiv (↑(List.length x.snd.snd) : Int)).toNat (x.fst.fst, x.fst.snd)).fst.fst (freqGo x.snd.fst.fst x.snd.fst.snd (key.tdiv (↑(List.length x.snd.snd) : Int)).toNat (x.fst.fst, x.fst.snd)).fst.snd (getT tFrac x.snd.snd (key.tmod (↑(List.length x.snd.snd) : Int))).fst (getT tFrac x.snd.snd (key.tmod (↑(List.length x.snd.snd) : Int))).snd).fst.fst), .int .i64 ((mulF (freqGo x.snd.fst.fst x.snd.fst.snd (key.tdiv (↑(List.length x.snd.snd) : Int)).toNat (x.fst.fst, x.fst.snd)).fst.fst (freqGo x.snd.fst.fst x.snd.fst.snd (key.tdiv (↑(List.length x.snd.snd) : Int)).toNat (x.fst.fst, x.fst.snd)).fst.snd (getT tFrac x.snd.snd (key.tmod (↑(List.length x.snd.snd) : Int))).fst (getT tFrac x.snd.snd (key.tmod (↑(List.length x.snd.snd) : Int))).snd).fst.snd)], .int .i64 ((mulF (freqGo x.snd.fst.fst x.snd.fst.snd (key.tdiv (↑(List.length x.snd.snd) : Int)).toNat (x.fst.fst, x.fst.snd)).fst.fst (freqGo x.snd.fst.fst x.snd.fst.snd (key.tdiv (↑(List.length x.snd.snd) : Int)).toNat (x.fst.fst, x.fst.snd)).fst.snd (getT tFrac x.snd.snd (key.tmod (↑(List.length x.snd.snd) : Int))).fst (getT tFrac x.snd.snd (key.tmod (↑(List.length x.snd.snd) : Int))).snd).snd)]))) (.leaf [.agg [.int .i64 ((0 : Int)), .int .i64 ((0 : Int))], .int .i64 ((2 : Int))]))) := by kernel_rfl
  refine (congrArg (Tree.ok _) htree).mpr ?_
  clear htree
  have hz : ∀ (l : List tFrac.den) (k : Int), getT tFrac l k = atF l k.toNat := fun _ _ => rfl
  have hb := tune_bd hp.1
  have hd := div_key key ((x.2.2 : List tFrac.den).length : Int) hp.2 (by omega)
  rw [Int.tdiv_eq_ediv_of_nonneg hp.2.1, Int.tmod_eq_emod_of_nonneg hp.2.1]
  simp only [Tree.ok, tyd_inj, packAV, AV.same, AV.same.sameL, encV, encS, enc, inK, Nd.ok, List.headD_cons, List.cons_append, List.nil_append, List.append_nil, true_and, and_true, Bool.true_and, Bool.and_true, hz, freqF]
  repeat' first | apply And.intro | intro _
  all_goals first | omega | exact hb.1 | exact hb.2.1 | simp_all
def C_Fi_2 : FuncId → Option Ct := addC 79 ct_l15Key C_Fi_1
theorem C_Fi_2_ok : COk Tryz.prog C_Fi_2 := addC_ok C_Fi_1_ok sat_l15Key

def C_Fi : FuncId → Option Ct := C_Fi_2
theorem C_Fi_ok : COk Tryz.prog C_Fi := C_Fi_2_ok
end Go.Proofs.YtkeckmdmmbeaiaaGreatDoor
