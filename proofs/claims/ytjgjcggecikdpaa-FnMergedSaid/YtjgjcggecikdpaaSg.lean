/- Contracts: scores merged; the law. Conditions: as each says. -/
import Derived.Test.YtjgjcggecikdpaaSf
import Derived.Test.YtjgjcggecikdpaaSrtS
set_option linter.unusedSimpArgs false
set_option linter.unusedVariables false
namespace Go.Proofs.Ytjgjcggecikdpaa
open Go.RowKit Sx
set_option maxRecDepth 100000
set_option maxHeartbeats 1000000
theorem mem_step {xs : List tNote.den} {i : Nat} (x : tNote.den) (h : i < xs.length) : x ∈ xs.drop i ↔ x = xs.getD i tNote.zero ∨ x ∈ xs.drop (i + 1) := by
  rw [List.drop_eq_getElem_cons h, getD_lt _ _ _ h, List.mem_cons]
def hitB (xs : List tNote.den) (y : tNote.den) : Bool := xs.any fun x => decide (cmpN x y = 0)
def badB (xs : List tNote.den) (y : tNote.den) : Bool := xs.any fun x => decide (cmpN x y = 0) && !decide (x = y)
def newL (xs ys : List tNote.den) : List tNote.den := ys.filter fun y => !decide (y ∈ xs)
def mergeS (xs ys : List tNote.den) : List tNote.den × Int := if scoreF xs = true ∧ scoreF ys = true then (if twinB (srt ltN (xs ++ newL xs ys)) = true then ([], 4) else if 60 < ((xs ++ newL xs ys).length : Int) then ([], 5) else (srt ltN (xs ++ newL xs ys), 0)) else ([], 1)
theorem mergeS_len (xs ys : List tNote.den) : (mergeS xs ys).1.length ≤ 60 := by
  unfold mergeS
  split
  · split
    · simp
    · by_cases h : 60 < ((xs ++ newL xs ys).length : Int)
      · rw [if_pos h]; simp
      · rw [if_neg h]; simp only [srt_len]; omega
  · simp
theorem newL_step (xs ys : List tNote.den) (i : Nat) (h : i < ys.length) : newL xs (ys.drop i) = (if !decide (ys.getD i tNote.zero ∈ xs) then [ys.getD i tNote.zero] else []) ++ newL xs (ys.drop (i + 1)) := filter_step _ ys i tNote.zero h
theorem bool_eq_of {p q : Bool} (h : p = false ↔ q = false) : p = q := by cases p <;> cases q <;> simp_all
set_option maxHeartbeats 1000000 in
theorem merge_law {xs ys : List tNote.den} (hx : scoreF xs = true) (hy : scoreF ys = true) : twinB (srt ltN (xs ++ newL xs ys)) = ys.any (badB xs) ∧ (ys.any (badB xs) = false → ys.filter (fun y => !hitB xs y) = newL xs ys) := by
  obtain ⟨o1, s1, a1⟩ := score_srt hx
  obtain ⟨o2, s2, a2⟩ := score_srt hy
  have on : AllOk goodN (newL xs ys) := fun z hz => o2 z (List.mem_filter.1 hz).1
  have mem : ∀ x ∈ xs, ∀ y ∈ xs, cmpN x y = 0 → x = y := fun x hxx y hyy h0 => by
    obtain ⟨i, hi, rfl⟩ := List.getElem_of_mem hxx
    obtain ⟨j, hj, rfl⟩ := List.getElem_of_mem hyy
    rcases Nat.lt_trichotomy i j with h | h | h
    · exact absurd h0 (List.pairwise_iff_getElem.1 a1 i j hi hj h)
    · subst h; rfl
    · exact absurd h0 (cmpN_symm (List.pairwise_iff_getElem.1 a1 j i hj hi h))
  have hbad : ∀ y, badB xs y = true ↔ y ∉ xs ∧ hitB xs y = true := fun y => by
    simp only [badB, hitB, List.any_eq_true, Bool.and_eq_true, decide_eq_true_eq, Bool.not_eq_true', decide_eq_false_iff_not]
    constructor
    · rintro ⟨x, h1, h2, h3⟩
      exact ⟨fun h => h3 (mem x h1 y h h2), x, h1, h2⟩
    · rintro ⟨h1, x, h2, h3⟩
      exact ⟨x, h2, h3, fun e => h1 (e ▸ h2)⟩
  constructor
  · have e : twinB (srt ltN (xs ++ newL xs ys)) = false ↔ ys.any (badB xs) = false := by
      rw [twin_srt (AllOk.app.2 ⟨o1, on⟩)]
      unfold Apart
      rw [List.pairwise_append]
      simp only [List.any_eq_false, Bool.not_eq_true]
      constructor
      · rintro ⟨_, _, h⟩ y hyy
        cases hb : badB xs y
        · rfl
        · obtain ⟨g1, g2⟩ := (hbad y).1 hb
          simp only [hitB, List.any_eq_true, decide_eq_true_eq] at g2
          obtain ⟨x, g2, g3⟩ := g2
          exact absurd g3 (h x g2 y (List.mem_filter.2 ⟨hyy, by simp [g1]⟩))
      · intro h
        refine ⟨a1, a2.sublist List.filter_sublist, fun x hxx y hyy e => ?_⟩
        obtain ⟨g1, g2⟩ := List.mem_filter.1 hyy
        have := h y g1
        have hb : badB xs y = true := (hbad y).2 ⟨by simpa using g2, by simp only [hitB, List.any_eq_true, decide_eq_true_eq]; exact ⟨x, hxx, e⟩⟩
        rw [hb] at this; simp at this
    exact bool_eq_of e
  · intro h
    refine List.filter_congr fun y hyy => ?_
    simp only [List.any_eq_false, Bool.not_eq_true] at h
    have hb := h y hyy
    by_cases hm : y ∈ xs
    · have : hitB xs y = true := by
        simp only [hitB, List.any_eq_true, decide_eq_true_eq]
        exact ⟨y, hm, cmpN_zero.2 ⟨swoN.irr (o2 y hyy), swoN.irr (o2 y hyy)⟩⟩
      simp [this, hm]
    · have : hitB xs y = false := by
        cases hh : hitB xs y
        · rfl
        · rw [(hbad y).2 ⟨hm, hh⟩] at hb; simp at hb
      simp [this, hm]
theorem eqN_dec (x y : tNote.den) : (((x.1.1 : Int) == y.1.1 && (x.1.2 : Int) == y.1.2) && (((x.2.1.1 : Int) == y.2.1.1 && (x.2.1.2 : Int) == y.2.1.2) && ((x.2.2.1 : Int) == y.2.2.1 && ((x.2.2.2.1 : Int) == y.2.2.2.1 && (x.2.2.2.2 : Int) == y.2.2.2.2)))) = decide (x = y) := by
  rw [Bool.eq_iff_iff]
  simp only [Bool.and_eq_true, beq_iff_eq, decide_eq_true_eq]
  obtain ⟨⟨a, b⟩, ⟨c, d⟩, e, f, g⟩ := x
  obtain ⟨⟨a', b'⟩, ⟨c', d'⟩, e', f', g'⟩ := y
  simp only [Prod.mk.injEq]
def outL (xs l : List tNote.den) : List tNote.den := l.filter fun y => !hitB xs y
def preL (xs l : List tNote.den) : List tNote.den := (l.takeWhile fun y => !badB xs y).filter fun y => !hitB xs y
theorem any_step {p : tNote.den → Bool} {l : List tNote.den} {i : Nat} (h : i < l.length) : (l.drop i).any p = (p (l.getD i tNote.zero) || (l.drop (i + 1)).any p) := by
  rw [List.drop_eq_getElem_cons h, getD_lt _ _ _ h, List.any_cons]
theorem outL_step (xs l : List tNote.den) (i : Nat) (h : i < l.length) : outL xs (l.drop i) = (if (!hitB xs (l.getD i tNote.zero)) = true then [l.getD i tNote.zero] else []) ++ outL xs (l.drop (i + 1)) := filter_step _ l i tNote.zero h
theorem preL_bad (xs l : List tNote.den) (i : Nat) (h : i < l.length) (hb : badB xs (l.getD i tNote.zero) = true) : preL xs (l.drop i) = [] := by
  unfold preL
  rw [getD_lt _ _ _ h] at hb
  rw [List.drop_eq_getElem_cons h, List.takeWhile_cons, hb]
  rfl
theorem preL_step (xs l : List tNote.den) (i : Nat) (h : i < l.length) (hb : badB xs (l.getD i tNote.zero) = false) : preL xs (l.drop i) = (if (!hitB xs (l.getD i tNote.zero)) = true then [l.getD i tNote.zero] else []) ++ preL xs (l.drop (i + 1)) := by
  unfold preL
  rw [getD_lt _ _ _ h] at hb
  rw [List.drop_eq_getElem_cons h, List.takeWhile_cons, hb, getD_lt _ _ _ h]
  simp only [Bool.not_false, if_true, List.filter_cons]
  split <;> simp
def ann_hasN_0 : LAnn := { sameS := [3, 7, 8], modS := [4, 9], sameH := [3], modH := [], base := 900000, nilE := [], nilB := [], G := fun
  | ⟨[.ptr 3 0, .view (.pair (.pair (.int .i64) (.int .i64)) (.pair (.pair (.int .i64) (.int .i64)) (.pair (.int .i64) (.pair (.int .i64) (.int .i64))))) xs, .int .i64 n], [.box [.int .i64 a, .int .i64 b, .int .i64 c, .int .i64 d, .int .i64 ky, .int .i64 ve, .int .i64 ch]], [.bool r, .int .i64 i], []⟩ => some (.p ((0 ≤ i ∧ i ≤ n) ∧ n = (xs.length : Int) ∧ n ≤ 9223372036854775807), .ite (decide ((((a, b), (c, d), ky, ve, ch) : tNote.den) ∈ xs.drop i.toNat)) (.leaf .ret [.bool true, .unk] []) (.leaf (.exit 0) [.bool r, .unk] []))
  | _ => none }
def ct_hasN : Ct := ctOf [.v qNote, .s tNote] (fun ((xs : List tNote.den), (x : tNote.den), _) => .p ((xs.length : Int) ≤ 9223372036854775807)) (fun ((xs : List tNote.den), (x : tNote.den), _) => .bool (decide (x ∈ xs)))
set_option maxHeartbeats 1000000 in
theorem loop_hasN_0 : LoopSat Try.prog Try.f145.ntmps (loopAt Try.f145 0) ann_hasN_0 := by
  refine loopSat_of (C := C_Sf) (L := (addL (firstId (loopAt Try.f145 0)) ann_hasN_0 noL)) (wr := false) mixedOk C_Sf_ok (loopsIn0 (by kernel_rfl)) (fun d => match d.same, d.vals with | [_, _, .int _ n], [_, .int _ i] => (n - i).toNat | _, _ => 0) fun d p t hG hp => ?_
  simp only [ann_hasN_0] at hG
  split at hG
  rotate_left
  · simp at hG
  rename_i xs n a b c d ky ve ch r i
  simp only [Option.some.injEq, Prod.mk.injEq] at hG
  obtain ⟨rfl, rfl⟩ := hG
  have htree : exRound Try.prog C_Sf false (addL (firstId (loopAt Try.f145 0)) ann_hasN_0 noL) Try.f145.ntmps ann_hasN_0 (loopAt Try.f145 0) ⟨[.ptr 3 0, .view tNote xs, .int .i64 n], [.box [.int .i64 a, .int .i64 b, .int .i64 c, .int .i64 d, .int .i64 ky, .int .i64 ve, .int .i64 ch]], [.bool r, .int .i64 i], []⟩ = .ite (decide (i < n)) (.need ((0 : Int) ≤ i ∧ i < (↑xs.length : Int)) (.ite (a == (getT tNote xs i).fst.fst && b == (getT tNote xs i).fst.snd && (c == (getT tNote xs i).snd.fst.fst && d == (getT tNote xs i).snd.fst.snd && (ky == (getT tNote xs i).snd.snd.fst && (ve == (getT tNote xs i).snd.snd.snd.fst && ch == (getT tNote xs i).snd.snd.snd.snd)))) (.leaf (.ret, ⟨[.ptr 3 0, .view (tFrac.pair (tFrac.pair (I64.pair (I64.pair I64)))) (xs), .int .i64 (n)], [.box [.int .i64 (a), .int .i64 (b), .int .i64 (c), .int .i64 (d), .int .i64 (ky), .int .i64 (ve), .int .i64 (ch)]], [.bool (true), .int .i64 (i)], []⟩)) (.need (inK IntKind.i64 (i + (1 : Int))) (.leaf (.normal, ⟨[.ptr 3 0, .view (tFrac.pair (tFrac.pair (I64.pair (I64.pair I64)))) (xs), .int .i64 (n)], [.box [.int .i64 (a), .int .i64 (b), .int .i64 (c), .int .i64 (d), .int .i64 (ky), .int .i64 (ve), .int .i64 (ch)]], [.bool (r), .int .i64 (i + (1 : Int))], []⟩))))) (.leaf ((.exit 0), ⟨[.ptr 3 0, .view (tFrac.pair (tFrac.pair (I64.pair (I64.pair I64)))) (xs), .int .i64 (n)], [.box [.int .i64 (a), .int .i64 (b), .int .i64 (c), .int .i64 (d), .int .i64 (ky), .int .i64 (ve), .int .i64 (ch)]], [.bool (r), .int .i64 (i)], []⟩)) := by kernel_rfl
  rw [htree]
  clear htree
  replace hp : (0 ≤ i ∧ i ≤ n) ∧ n = (xs.length : Int) ∧ n ≤ 9223372036854775807 := hp
  simp only [Tree.ok, tyd_inj, packAV, AV.same, AV.same.sameL, encV, encS, enc, inK, Nd.ok, List.headD_cons, List.cons_append, List.nil_append, List.append_nil, true_and, and_true, Bool.true_and, Bool.and_true, loop_next, weakBs_nil, weakBs_cons, weakB_self, weakB_row, weakB_int, weakL_nil, weakL_unk, weakL_guess, isRow_own, isRow_unk, weakL_int, weakL_bool, weakL_str, weakL_own, weakL_view, weakL_nilS, noRow_int, noRow_bool, own_inj, LTree.val, cond_true, cond_false, Prod.mk.injEq, List.cons.injEq, AV.int.injEq, AV.bool.injEq, AV.str.injEq, AV.agg.injEq, ann_hasN_0, decide_eq_true_eq, decide_eq_false_iff_not]
  simp only [getT]
  refine ⟨fun ha => ?_, fun ha => ?_⟩
  · have h1 := mem_step (((a, b), (c, d), ky, ve, ch) : tNote.den) (xs := xs) (i := i.toNat) (by omega)
    have h3 := eqN_dec (((a, b), (c, d), ky, ve, ch) : tNote.den) (xs.getD i.toNat tNote.zero)
    simp only at h3
    simp only [h3]
    have h2 : decide ((((a, b), (c, d), ky, ve, ch) : tNote.den) ∈ xs.drop i.toNat) = (decide ((((a, b), (c, d), ky, ve, ch) : tNote.den) = xs.getD i.toNat tNote.zero) || decide ((((a, b), (c, d), ky, ve, ch) : tNote.den) ∈ xs.drop (i.toNat + 1))) := by
      rw [Bool.eq_iff_iff]; simp only [decide_eq_true_eq, Bool.or_eq_true]; exact h1
    rw [show (i + 1).toNat = i.toNat + 1 by omega, h2]
    clear h1 h2 h3
    generalize decide ((((a, b), (c, d), ky, ve, ch) : tNote.den) = xs.getD i.toNat tNote.zero) = p
    cases p
    · rw [Bool.false_or]
      repeat' first | apply And.intro | intro _
      all_goals first | omega | trivial | rfl | contradiction | (simp [Tree.ok, tyd_inj, packAV, AV.same, AV.same.sameL, encV, encS, enc, inK, Nd.ok, List.headD_cons, List.cons_append, List.nil_append, List.append_nil, true_and, and_true, Bool.true_and, Bool.and_true, loop_next, weakBs_nil, weakBs_cons, weakB_self, weakB_row, weakB_int, weakL_nil, weakL_unk, weakL_guess, isRow_own, isRow_unk, weakL_int, weakL_bool, weakL_str, weakL_own, weakL_view, weakL_nilS, noRow_int, noRow_bool, own_inj, LTree.val, cond_true, cond_false, Prod.mk.injEq, List.cons.injEq, AV.int.injEq, AV.bool.injEq, AV.str.injEq, AV.agg.injEq]; done)
    · rw [Bool.true_or]
      repeat' first | apply And.intro | intro _
      all_goals first | omega | trivial | rfl | contradiction | (simp [Tree.ok, tyd_inj, packAV, AV.same, AV.same.sameL, encV, encS, enc, inK, Nd.ok, List.headD_cons, List.cons_append, List.nil_append, List.append_nil, true_and, and_true, Bool.true_and, Bool.and_true, loop_next, weakBs_nil, weakBs_cons, weakB_self, weakB_row, weakB_int, weakL_nil, weakL_unk, weakL_guess, isRow_own, isRow_unk, weakL_int, weakL_bool, weakL_str, weakL_own, weakL_view, weakL_nilS, noRow_int, noRow_bool, own_inj, LTree.val, cond_true, cond_false, Prod.mk.injEq, List.cons.injEq, AV.int.injEq, AV.bool.injEq, AV.str.injEq, AV.agg.injEq]; done)
  · rw [show i.toNat = xs.length by omega, List.drop_length]
    simp [Tree.ok, tyd_inj, packAV, AV.same, AV.same.sameL, encV, encS, enc, inK, Nd.ok, List.headD_cons, List.cons_append, List.nil_append, List.append_nil, true_and, and_true, Bool.true_and, Bool.and_true, loop_next, weakBs_nil, weakBs_cons, weakB_self, weakB_row, weakB_int, weakL_nil, weakL_unk, weakL_guess, isRow_own, isRow_unk, weakL_int, weakL_bool, weakL_str, weakL_own, weakL_view, weakL_nilS, noRow_int, noRow_bool, own_inj, LTree.val, cond_true, cond_false, Prod.mk.injEq, List.cons.injEq, AV.int.injEq, AV.bool.injEq, AV.str.injEq, AV.agg.injEq]
theorem loops_hasN : ∀ c, Try.f145.body = some c → LoopsOk Try.prog (addL (firstId (loopAt Try.f145 0)) ann_hasN_0 noL) Try.f145.ntmps c := loopsN fun i hi ann h => by
  have hn : loopN Try.f145 = 1 := by kernel_rfl
  rw [hn] at hi
  exact match i, hi, h with
    | 0, _, h => (Option.some.inj ((show (addL (firstId (loopAt Try.f145 0)) ann_hasN_0 noL) (firstId (loopAt Try.f145 0)) = some ann_hasN_0 from by kernel_rfl).symm.trans h)) ▸ loop_hasN_0
set_option maxHeartbeats 1000000 in
theorem sat_hasN : Sat Try.prog 145 ct_hasN := by
  refine sat_typed (C := C_Sf) (L := (addL (firstId (loopAt Try.f145 0)) ann_hasN_0 noL)) (wr := false) mixedOk Try.func145 C_Sf_ok (loops_hasN) (fun _ => by first | rfl | (simp [ownsOf, ownsOf.ownsL, enc, encV, encS])) fun x hp => ?_
  obtain ⟨(xs : List tNote.den), (x : tNote.den), _⟩ := x
  replace hp : (xs.length : Int) ≤ 9223372036854775807 := hp
  have htree : exFunc Try.prog C_Sf false (addL (firstId (loopAt Try.f145 0)) ann_hasN_0 noL) Try.f145 (encA [.v qNote, .s tNote] (xs, x, ())) = .need (((0 : Int) ≤ (0 : Int) ∧ (0 : Int) ≤ (↑xs.length : Int)) ∧ (↑xs.length : Int) = (↑xs.length : Int) ∧ (↑xs.length : Int) ≤ (9223372036854775807 : Int)) (.ite (decide (((x.fst.fst, x.fst.snd), (x.snd.fst.fst, x.snd.fst.snd), x.snd.snd.fst, x.snd.snd.snd.fst, x.snd.snd.snd.snd) ∈ List.drop (Int.toNat (0 : Int)) xs)) (.leaf [.bool (true)]) (.leaf [.lit false])) := by kernel_rfl
  refine (congrArg (Tree.ok _) htree).mpr ?_
  clear htree
  simp only [Tree.ok, tyd_inj, packAV, AV.same, AV.same.sameL, encV, encS, enc, inK, Nd.ok, List.headD_cons, List.cons_append, List.nil_append, List.append_nil, true_and, and_true, Bool.true_and, Bool.and_true, Int.toNat_zero, List.drop_zero, decide_eq_true_eq, decide_eq_false_iff_not]
  try simp only [etaN]
  refine ⟨by omega, fun h => ?_, fun h => ?_⟩
  · simp [h]
  · simp [h]
def C_Sg_1 : FuncId → Option Ct := addC 145 ct_hasN C_Sf
theorem C_Sg_1_ok : COk Try.prog C_Sg_1 := addC_ok C_Sf_ok sat_hasN
def ann_iMerge_0 : LAnn := { sameS := [2, 4, 5, 22, 23], modS := [6, 24], sameH := [2, 4], modH := [], base := 900000, nilE := [], nilB := [], G := fun
  | ⟨[.ptr 2 0, .ptr 4 0, .int .i64 r, .view (.pair (.pair (.int .i64) (.int .i64)) (.pair (.pair (.int .i64) (.int .i64)) (.pair (.int .i64) (.pair (.int .i64) (.int .i64))))) ys, .int .i64 n], [.box [.view (.pair (.pair (.int .i64) (.int .i64)) (.pair (.pair (.int .i64) (.int .i64)) (.pair (.int .i64) (.pair (.int .i64) (.int .i64))))) xs], .box [.nilS]], [.own (.pair (.pair (.int .i64) (.int .i64)) (.pair (.pair (.int .i64) (.int .i64)) (.pair (.int .i64) (.pair (.int .i64) (.int .i64))))) out, .int .i64 i], []⟩ => some (.p ((0 ≤ i ∧ i ≤ n) ∧ n = (ys.length : Int) ∧ ys.length ≤ 60 ∧ (out.length : Int) ≤ 60 + i ∧ xs.length ≤ 60), .leaf (.exit 0) [.own tNote (out ++ newL xs (ys.drop i.toNat)), .int .i64 n] [])
  | _ => none }
def ct_iMerge : Ct := ctOf [.s qNote, .s qNote] (fun ((xs : List tNote.den), (ys : List tNote.den), _) => .p ((xs.length : Int) ≤ 9223372036854775807 ∧ (ys.length : Int) ≤ 9223372036854775807)) (fun ((xs : List tNote.den), (ys : List tNote.den), _) => .tup [.agg [.own tNote (mergeS xs ys).1], .int .i64 (mergeS xs ys).2])
set_option maxHeartbeats 1000000 in
theorem loop_iMerge_0 : LoopSat Try.prog Try.f54.ntmps (loopAt Try.f54 0) ann_iMerge_0 := by
  refine loopSat_of (C := C_Sg_1) (L := (addL (firstId (loopAt Try.f54 0)) ann_iMerge_0 noL)) (wr := false) mixedOk C_Sg_1_ok (loopsIn0 (by kernel_rfl)) (fun d => match d.same, d.vals with | [_, _, _, _, .int _ n], [_, .int _ i] => (n - i).toNat | _, _ => 0) fun d p t hG hp => ?_
  simp only [ann_iMerge_0] at hG
  split at hG
  rotate_left
  · simp at hG
  rename_i r ys n xs out i
  simp only [Option.some.injEq, Prod.mk.injEq] at hG
  obtain ⟨rfl, rfl⟩ := hG
  have htree : exRound Try.prog C_Sg_1 false (addL (firstId (loopAt Try.f54 0)) ann_iMerge_0 noL) Try.f54.ntmps ann_iMerge_0 (loopAt Try.f54 0) ⟨[.ptr 2 0, .ptr 4 0, .int .i64 r, .view tNote ys, .int .i64 n], [.box [.view tNote xs], .box [.nilS]], [.own tNote out, .int .i64 i], []⟩ = .ite (decide (i < n)) (.need ((0 : Int) ≤ i ∧ i < (↑ys.length : Int)) (.need ((↑xs.length : Int) ≤ (9223372036854775807 : Int)) (.ite (!decide ((((getT tNote ys i).fst.fst, (getT tNote ys i).fst.snd), ((getT tNote ys i).snd.fst.fst, (getT tNote ys i).snd.fst.snd), (getT tNote ys i).snd.snd.fst, (getT tNote ys i).snd.snd.snd.fst, (getT tNote ys i).snd.snd.snd.snd) ∈ xs)) (.need (out.length + [(((getT tNote ys i).fst.fst, (getT tNote ys i).fst.snd), ((getT tNote ys i).snd.fst.fst, (getT tNote ys i).snd.fst.snd), (getT tNote ys i).snd.snd.fst, (getT tNote ys i).snd.snd.snd.fst, (getT tNote ys i).snd.snd.snd.snd)].length ≤ (16777216 : Nat)) (.need (inK IntKind.i64 (i + (1 : Int))) (.leaf (.normal, ⟨[.ptr 2 0, .ptr 4 0, .int .i64 (r), .view (tFrac.pair (tFrac.pair (I64.pair (I64.pair I64)))) (ys), .int .i64 (n)], [.box [.view (tFrac.pair (tFrac.pair (I64.pair (I64.pair I64)))) (xs)], .box [.nilS]], [.own (tFrac.pair (tFrac.pair (I64.pair (I64.pair I64)))) (out ++ [(((getT tNote ys i).fst.fst, (getT tNote ys i).fst.snd), ((getT tNote ys i).snd.fst.fst, (getT tNote ys i).snd.fst.snd), (getT tNote ys i).snd.snd.fst, (getT tNote ys i).snd.snd.snd.fst, (getT tNote ys i).snd.snd.snd.snd)]), .int .i64 (i + (1 : Int))], []⟩)))) (.need (inK IntKind.i64 (i + (1 : Int))) (.leaf (.normal, ⟨[.ptr 2 0, .ptr 4 0, .int .i64 (r), .view (tFrac.pair (tFrac.pair (I64.pair (I64.pair I64)))) (ys), .int .i64 (n)], [.box [.view (tFrac.pair (tFrac.pair (I64.pair (I64.pair I64)))) (xs)], .box [.nilS]], [.own (tFrac.pair (tFrac.pair (I64.pair (I64.pair I64)))) (out), .int .i64 (i + (1 : Int))], []⟩)))))) (.leaf ((.exit 0), ⟨[.ptr 2 0, .ptr 4 0, .int .i64 (r), .view (tFrac.pair (tFrac.pair (I64.pair (I64.pair I64)))) (ys), .int .i64 (n)], [.box [.view (tFrac.pair (tFrac.pair (I64.pair (I64.pair I64)))) (xs)], .box [.nilS]], [.own (tFrac.pair (tFrac.pair (I64.pair (I64.pair I64)))) (out), .int .i64 (i)], []⟩)) := by kernel_rfl
  rw [htree]
  clear htree
  replace hp : (0 ≤ i ∧ i ≤ n) ∧ n = (ys.length : Int) ∧ ys.length ≤ 60 ∧ (out.length : Int) ≤ 60 + i ∧ xs.length ≤ 60 := hp
  simp only [Tree.ok, tyd_inj, packAV, AV.same, AV.same.sameL, encV, encS, enc, inK, Nd.ok, List.headD_cons, List.cons_append, List.nil_append, List.append_nil, true_and, and_true, Bool.true_and, Bool.and_true, loop_next, weakBs_nil, weakBs_cons, weakB_self, weakB_row, weakB_int, weakL_nil, weakL_unk, weakL_guess, isRow_own, isRow_unk, weakL_int, weakL_bool, weakL_str, weakL_own, weakL_view, weakL_nilS, noRow_int, noRow_bool, own_inj, LTree.val, cond_true, cond_false, Prod.mk.injEq, List.cons.injEq, AV.int.injEq, AV.bool.injEq, AV.str.injEq, AV.agg.injEq, ann_iMerge_0, decide_eq_true_eq, decide_eq_false_iff_not, Bool.not_eq_true', Bool.not_eq_false']
  simp only [getT, etaN]
  refine ⟨fun ha => ?_, fun ha => ?_⟩
  · have h1 := newL_step xs ys i.toNat (by omega)
    rw [show (i + 1).toNat = i.toNat + 1 by omega, h1]
    simp only [List.length_append, List.length_cons, List.length_nil]
    by_cases hm : ys.getD i.toNat tNote.zero ∈ xs
    · simp only [hm, decide_true, not_true, Bool.not_true, Bool.false_eq_true, if_false, List.nil_append]
      repeat' first | apply And.intro | intro _
      all_goals first | omega | trivial | rfl | contradiction | exact hp.2.2.1 | exact hp.2.2.2.2
    · simp only [hm, decide_false, not_false_eq_true, Bool.not_false, if_true, List.append_assoc]
      repeat' first | apply And.intro | intro _
      all_goals first | omega | trivial | rfl | contradiction | exact hp.2.2.1 | exact hp.2.2.2.2
  · rw [show i.toNat = ys.length by omega, List.drop_length]
    simp [Tree.ok, tyd_inj, packAV, AV.same, AV.same.sameL, encV, encS, enc, inK, Nd.ok, List.headD_cons, List.cons_append, List.nil_append, List.append_nil, true_and, and_true, Bool.true_and, Bool.and_true, loop_next, weakBs_nil, weakBs_cons, weakB_self, weakB_row, weakB_int, weakL_nil, weakL_unk, weakL_guess, isRow_own, isRow_unk, weakL_int, weakL_bool, weakL_str, weakL_own, weakL_view, weakL_nilS, noRow_int, noRow_bool, own_inj, LTree.val, cond_true, cond_false, Prod.mk.injEq, List.cons.injEq, AV.int.injEq, AV.bool.injEq, AV.str.injEq, AV.agg.injEq, newL]
    omega
theorem loops_iMerge : ∀ c, Try.f54.body = some c → LoopsOk Try.prog (addL (firstId (loopAt Try.f54 0)) ann_iMerge_0 noL) Try.f54.ntmps c := loopsN fun i hi ann h => by
  have hn : loopN Try.f54 = 1 := by kernel_rfl
  rw [hn] at hi
  exact match i, hi, h with
    | 0, _, h => (Option.some.inj ((show (addL (firstId (loopAt Try.f54 0)) ann_iMerge_0 noL) (firstId (loopAt Try.f54 0)) = some ann_iMerge_0 from by kernel_rfl).symm.trans h)) ▸ loop_iMerge_0
set_option maxHeartbeats 1000000 in
theorem sat_iMerge : Sat Try.prog 54 ct_iMerge := by
  refine sat_typed (C := C_Sg_1) (L := (addL (firstId (loopAt Try.f54 0)) ann_iMerge_0 noL)) (wr := false) mixedOk Try.func54 C_Sg_1_ok (loops_iMerge) (fun _ => by first | rfl | (simp [ownsOf, ownsOf.ownsL, enc, encV, encS])) fun x hp => ?_
  obtain ⟨(xs : List tNote.den), (ys : List tNote.den), _⟩ := x
  replace hp : (xs.length : Int) ≤ 9223372036854775807 ∧ (ys.length : Int) ≤ 9223372036854775807 := hp
  have htree : exFunc Try.prog C_Sg_1 false (addL (firstId (loopAt Try.f54 0)) ann_iMerge_0 noL) Try.f54 (encA [.s qNote, .s qNote] (xs, ys, ())) = .need ((↑xs.length : Int) ≤ (9223372036854775807 : Int)) (.ite (!scoreF xs) (.leaf [.agg [.nilS], .int .i64 ((1 : Int))]) (.need ((↑ys.length : Int) ≤ (9223372036854775807 : Int)) (.ite (!scoreF ys) (.leaf [.agg [.nilS], .int .i64 ((1 : Int))]) (.need (xs.length ≤ (16777216 : Nat)) (.need (((0 : Int) ≤ (0 : Int) ∧ (0 : Int) ≤ (↑ys.length : Int)) ∧ (↑ys.length : Int) = (↑ys.length : Int) ∧ ys.length ≤ (60 : Nat) ∧ (↑xs.length : Int) ≤ (60 : Int) + (0 : Int) ∧ xs.length ≤ (60 : Nat)) (.need ((xs ++ newL xs (List.drop (Int.toNat (0 : Int)) ys)).length ≤ (1000 : Nat) ∧ AllOk goodN (xs ++ newL xs (List.drop (Int.toNat (0 : Int)) ys))) (.need ((srt ltN (xs ++ newL xs (List.drop (Int.toNat (0 : Int)) ys))).length ≤ (1000 : Nat) ∧ AllOk goodN (srt ltN (xs ++ newL xs (List.drop (Int.toNat (0 : Int)) ys)))) (.ite (twinB (srt ltN (xs ++ newL xs (List.drop (Int.toNat (0 : Int)) ys)))) (.leaf [.agg [.nilS], .int .i64 ((4 : Int))]) (.ite (decide ((60 : Int) < (↑(srt ltN (xs ++ newL xs (List.drop (Int.toNat (0 : Int)) ys))).length : Int))) (.leaf [.agg [.nilS], .int .i64 ((5 : Int))]) (.leaf [.agg [.own (tFrac.pair (tFrac.pair (I64.pair (I64.pair I64)))) (srt ltN (xs ++ newL xs (List.drop (Int.toNat (0 : Int)) ys)))], .int .i64 ((0 : Int))])))))))))) := by kernel_rfl
  refine (congrArg (Tree.ok _) htree).mpr ?_
  clear htree
  have hx := @scoreN xs
  have hy := @scoreN ys
  have ho : scoreF xs = true → scoreF ys = true → AllOk goodN (xs ++ newL xs ys) := fun h1 h2 => AllOk.app.2 ⟨notesOk (hx h1).2, fun z hz => notesOk (hy h2).2 z (List.mem_filter.1 hz).1⟩
  have hl : (newL xs ys).length ≤ ys.length := List.length_filter_le _ _
  have e : (xs ++ newL xs ys).length = xs.length + (newL xs ys).length := List.length_append
  simp only [Tree.ok, tyd_inj, packAV, AV.same, AV.same.sameL, encV, encS, enc, inK, Nd.ok, List.headD_cons, List.cons_append, List.nil_append, List.append_nil, true_and, and_true, Bool.true_and, Bool.and_true, mergeS, Int.toNat_zero, List.drop_zero, srt_len, decide_eq_true_eq, decide_eq_false_iff_not]
  generalize xs ++ newL xs ys = zs at *
  cases h0 : scoreF xs
  · simp; omega
  · cases h1 : scoreF ys
    · simp; omega
    · have ho := ho h0 h1
      have hx := hx h0
      have hy := hy h1
      cases h3 : twinB (srt ltN zs)
      · by_cases h4 : 60 < (zs.length : Int)
        all_goals
          simp only [h4]
          simp
          repeat' first | apply And.intro | intro _
          all_goals first | omega | exact ho _ ‹_› | exact ho.srt _ ‹_› | exact hx.1 | exact hy.1 | trivial | (exfalso; omega)
      · simp
        repeat' first | apply And.intro | intro _
        all_goals first | omega | exact ho _ ‹_› | exact ho.srt _ ‹_› | exact hx.1 | exact hy.1 | trivial
def C_Sg_2 : FuncId → Option Ct := addC 54 ct_iMerge C_Sg_1
theorem C_Sg_2_ok : COk Try.prog C_Sg_2 := addC_ok C_Sg_1_ok sat_iMerge

def C_Sg : FuncId → Option Ct := C_Sg_2
theorem C_Sg_ok : COk Try.prog C_Sg := C_Sg_2_ok
end Go.Proofs.Ytjgjcggecikdpaa
