/- Contracts: scores merged; the law. Conditions: as each says. -/
import Derived.Test.YtljngogolpelaaaSf
set_option linter.unusedSimpArgs false
set_option linter.unusedVariables false
namespace Go.Proofs.Ytljngogolpelaaa
open Go.RowKit Sx
set_option maxRecDepth 100000
theorem mem_step {xs : List tNote.den} {i : Nat} (x : tNote.den) (h : i < xs.length) : x ∈ xs.drop i ↔ x = xs.getD i tNote.zero ∨ x ∈ xs.drop (i + 1) := by
  rw [List.drop_eq_getElem_cons h, getD_lt _ _ _ h, List.mem_cons]
def hitB (xs : List tNote.den) (y : tNote.den) : Bool := xs.any fun x => decide (cmpN x y = 0)
def badB (xs : List tNote.den) (y : tNote.den) : Bool := xs.any fun x => decide (cmpN x y = 0) && !decide (x = y)
def newL (xs ys : List tNote.den) : List tNote.den := ys.filter fun y => !decide (y ∈ xs)
def mergeS (xs ys : List tNote.den) : List tNote.den × Int := if scoreF xs = true ∧ scoreF ys = true then (if twinB (srt ltN (xs ++ newL xs ys)) = true then ([], 4) else if 60 < ((xs ++ newL xs ys).length : Int) then ([], 5) else (srt ltN (xs ++ newL xs ys), 0)) else ([], 1)
theorem mergeS_len (xs ys : List tNote.den) : (mergeS xs ys).1.length ≤ 60 := by
  unfold mergeS
  split
  · split
    · simp
    · by_cases h : 60 < ((xs ++ newL xs ys).length : Int)
      · rw [if_pos h]; simp
      · rw [if_neg h]; simp only [srt_len]; omega
  · simp
theorem newL_step (xs ys : List tNote.den) (i : Nat) (h : i < ys.length) : newL xs (ys.drop i) = (if !decide (ys.getD i tNote.zero ∈ xs) then [ys.getD i tNote.zero] else []) ++ newL xs (ys.drop (i + 1)) := filter_step _ ys i tNote.zero h
/-! ### no two at the same place -/
theorem ins_perm {x : tNote.den} : ∀ {l : List tNote.den}, (ins ltN x l).Perm (x :: l)
  | [] => .refl _
  | y :: l => by
    simp only [ins]
    split
    · exact (List.Perm.cons y ins_perm).trans (List.Perm.swap x y l)
    · exact .refl _
theorem srt_perm : ∀ {l : List tNote.den}, (srt ltN l).Perm l
  | [] => .refl _
  | x :: l => ins_perm.trans (List.Perm.cons x srt_perm)
def Apart (l : List tNote.den) : Prop := l.Pairwise fun x y => cmpN x y ≠ 0
theorem cmpN_symm {x y : tNote.den} (h : cmpN x y ≠ 0) : cmpN y x ≠ 0 := fun e => h (cmpN_zero.2 (cmpN_zero.1 e).symm)
theorem apart_perm {l l' : List tNote.den} (h : l.Perm l') : Apart l ↔ Apart l' := h.pairwise_iff cmpN_symm
theorem twin_apart {l : List tNote.den} (ho : AllOk goodN l) (hs : Srt ltN l) : twinB l = false ↔ Apart l := by
  have key : ∀ (n i : Nat), i + n = l.length → 1 ≤ i → (twinF l n i = false ↔ ∀ j, i ≤ j → j < l.length → cmpN (l.getD (j - 1) tNote.zero) (l.getD j tNote.zero) ≠ 0) := by
    intro n
    induction n with
    | zero => intro i h1 h2; simp only [twinF, true_iff]; intro j hj hl; omega
    | succ n ih =>
      intro i h1 h2
      simp only [twinF, Bool.or_eq_false_iff, decide_eq_false_iff_not]
      rw [ih (i + 1) (by omega) (by omega)]
      constructor
      · rintro ⟨g1, g2⟩ j hj hl
        rcases Nat.lt_or_ge i j with h | h
        · exact g2 j h hl
        · rw [show j = i by omega]; exact g1
      · intro g
        exact ⟨g i (by omega) (by omega), fun j hj hl => g j (by omega) hl⟩
  unfold twinB
  rcases Nat.eq_zero_or_pos l.length with h0 | h0
  · have : l = [] := List.eq_nil_of_length_eq_zero h0
    subst this
    simp [twinF, Apart]
  · rw [key (l.length - 1) 1 (by omega) (by omega)]
    unfold Apart
    rw [List.pairwise_iff_getElem]
    constructor
    · intro g i j hi hj hij h0
      have g1 := g (i + 1) (by omega) (by omega)
      rw [Nat.add_sub_cancel, getD_lt _ _ _ hi, getD_lt _ _ _ (by omega)] at g1
      rcases Nat.lt_or_ge (i + 1) j with h | h
      · have a1 := List.pairwise_iff_getElem.1 hs i (i + 1) hi (by omega) (by omega)
        have a2 := List.pairwise_iff_getElem.1 hs (i + 1) j (by omega) hj h
        have o1 := ho _ (List.getElem_mem hi)
        have o2 := ho _ (List.getElem_mem (show i + 1 < l.length by omega))
        have o3 := ho _ (List.getElem_mem hj)
        have lt1 : ltN l[i] l[i + 1] = true := by
          cases hx : ltN l[i] l[i + 1]
          · exact absurd (cmpN_zero.2 ⟨hx, a1⟩) g1
          · rfl
        have lt2 := swoN.lt_le o1 o2 o3 lt1 a2
        have := (cmpN_zero.1 h0).1
        rw [lt2] at this; simp at this
      · have : j = i + 1 := by omega
        subst this
        exact g1 h0
    · intro g j hj hl
      have := g (j - 1) j (by omega) hl (by omega)
      rw [getD_lt _ _ _ hl, getD_lt _ _ _ (by omega)]
      exact this
theorem twin_srt {l : List tNote.den} (ho : AllOk goodN l) : twinB (srt ltN l) = false ↔ Apart l :=
  (twin_apart ho.srt (sorted_srt swoN ho)).trans (apart_perm srt_perm)
theorem sortF_get {l : List tNote.den} : ∀ (n i : Nat), i + n = l.length → sortF l n i = true → ∀ j, i ≤ j → j < l.length → ltN (l.getD (j - 1) tNote.zero) (l.getD j tNote.zero) = true
  | 0, i, h, _, j, h1, h2 => by omega
  | n + 1, i, h, hs, j, h1, h2 => by
    simp only [sortF, Bool.and_eq_true, decide_eq_true_eq] at hs
    rcases Nat.lt_or_ge i j with hj | hj
    · exact sortF_get n (i + 1) (by omega) hs.2 j hj h2
    · rw [show j = i by omega, ltN_true]; exact hs.1
theorem score_srt {l : List tNote.den} (h : scoreF l = true) : AllOk goodN l ∧ Srt ltN l ∧ Apart l := by
  have hb := both_all l
  have hn := scoreN h
  simp only [scoreF, hb, Bool.and_eq_true, decide_eq_true_eq] at h
  have ho := notesOk hn.2
  rcases Nat.eq_zero_or_pos l.length with h0 | h0
  · have : l = [] := List.eq_nil_of_length_eq_zero h0
    subst this
    exact ⟨ho, List.Pairwise.nil, List.Pairwise.nil⟩
  have hg := sortF_get (l.length - 1) 1 (by omega) h.2.2
  have hlt : ∀ (n i : Nat) (hn : i + n + 1 < l.length), ltN (l[i]'(by omega)) (l[i + n + 1]) = true := by
    intro n
    induction n with
    | zero =>
      intro i hn
      have := hg (i + 1) (by omega) (by omega)
      rwa [Nat.add_sub_cancel, getD_lt _ _ _ (by omega), getD_lt _ _ _ (by omega)] at this
    | succ n ih =>
      intro i hn
      have g1 := ih i (by omega)
      have := hg (i + n + 2) (by omega) (by omega)
      rw [show i + n + 2 - 1 = i + n + 1 by omega, getD_lt _ _ _ (by omega), getD_lt _ _ _ (by omega)] at this
      exact swoN.trans (ho _ (List.getElem_mem _)) (ho _ (List.getElem_mem _)) (ho _ (List.getElem_mem _)) g1 this
  have hp : l.Pairwise fun x y => ltN x y = true := List.pairwise_iff_getElem.2 fun i j hi hj hij => by
    have := hlt (j - i - 1) i (by omega)
    simpa only [show i + (j - i - 1) + 1 = j by omega] using this
  refine ⟨ho, hp.imp_of_mem fun hx hy h => swoN.asym _ _ (ho _ hx) (ho _ hy) h, hp.imp fun h e => ?_⟩
  have := (cmpN_zero.1 e).1
  rw [h] at this; simp at this
theorem bool_eq_of {p q : Bool} (h : p = false ↔ q = false) : p = q := by cases p <;> cases q <;> simp_all
set_option maxHeartbeats 1000000 in
theorem merge_law {xs ys : List tNote.den} (hx : scoreF xs = true) (hy : scoreF ys = true) : twinB (srt ltN (xs ++ newL xs ys)) = ys.any (badB xs) ∧ (ys.any (badB xs) = false → ys.filter (fun y => !hitB xs y) = newL xs ys) := by
  obtain ⟨o1, s1, a1⟩ := score_srt hx
  obtain ⟨o2, s2, a2⟩ := score_srt hy
  have on : AllOk goodN (newL xs ys) := fun z hz => o2 z (List.mem_filter.1 hz).1
  have mem : ∀ x ∈ xs, ∀ y ∈ xs, cmpN x y = 0 → x = y := fun x hxx y hyy h0 => by
    obtain ⟨i, hi, rfl⟩ := List.getElem_of_mem hxx
    obtain ⟨j, hj, rfl⟩ := List.getElem_of_mem hyy
    rcases Nat.lt_trichotomy i j with h | h | h
    · exact absurd h0 (List.pairwise_iff_getElem.1 a1 i j hi hj h)
    · subst h; rfl
    · exact absurd h0 (cmpN_symm (List.pairwise_iff_getElem.1 a1 j i hj hi h))
  have hbad : ∀ y, badB xs y = true ↔ y ∉ xs ∧ hitB xs y = true := fun y => by
    simp only [badB, hitB, List.any_eq_true, Bool.and_eq_true, decide_eq_true_eq, Bool.not_eq_true', decide_eq_false_iff_not]
    constructor
    · rintro ⟨x, h1, h2, h3⟩
      exact ⟨fun h => h3 (mem x h1 y h h2), x, h1, h2⟩
    · rintro ⟨h1, x, h2, h3⟩
      exact ⟨x, h2, h3, fun e => h1 (e ▸ h2)⟩
  constructor
  · have e : twinB (srt ltN (xs ++ newL xs ys)) = false ↔ ys.any (badB xs) = false := by
      rw [twin_srt (AllOk.app.2 ⟨o1, on⟩)]
      unfold Apart
      rw [List.pairwise_append]
      simp only [List.any_eq_false, Bool.not_eq_true]
      constructor
      · rintro ⟨_, _, h⟩ y hyy
        cases hb : badB xs y
        · rfl
        · obtain ⟨g1, g2⟩ := (hbad y).1 hb
          simp only [hitB, List.any_eq_true, decide_eq_true_eq] at g2
          obtain ⟨x, g2, g3⟩ := g2
          exact absurd g3 (h x g2 y (List.mem_filter.2 ⟨hyy, by simp [g1]⟩))
      · intro h
        refine ⟨a1, a2.sublist List.filter_sublist, fun x hxx y hyy e => ?_⟩
        obtain ⟨g1, g2⟩ := List.mem_filter.1 hyy
        have := h y g1
        have hb : badB xs y = true := (hbad y).2 ⟨by simpa using g2, by simp only [hitB, List.any_eq_true, decide_eq_true_eq]; exact ⟨x, hxx, e⟩⟩
        rw [hb] at this; simp at this
    exact bool_eq_of e
  · intro h
    refine List.filter_congr fun y hyy => ?_
    simp only [List.any_eq_false, Bool.not_eq_true] at h
    have hb := h y hyy
    by_cases hm : y ∈ xs
    · have : hitB xs y = true := by
        simp only [hitB, List.any_eq_true, decide_eq_true_eq]
        exact ⟨y, hm, cmpN_zero.2 ⟨swoN.irr (o2 y hyy), swoN.irr (o2 y hyy)⟩⟩
      simp [this, hm]
    · have : hitB xs y = false := by
        cases hh : hitB xs y
        · rfl
        · rw [(hbad y).2 ⟨hm, hh⟩] at hb; simp at hb
      simp [this, hm]
theorem eqN_dec (x y : tNote.den) : (((x.1.1 : Int) == y.1.1 && (x.1.2 : Int) == y.1.2) && (((x.2.1.1 : Int) == y.2.1.1 && (x.2.1.2 : Int) == y.2.1.2) && ((x.2.2.1 : Int) == y.2.2.1 && ((x.2.2.2.1 : Int) == y.2.2.2.1 && (x.2.2.2.2 : Int) == y.2.2.2.2)))) = decide (x = y) := by
  rw [Bool.eq_iff_iff]
  simp only [Bool.and_eq_true, beq_iff_eq, decide_eq_true_eq]
  obtain ⟨⟨a, b⟩, ⟨c, d⟩, e, f, g⟩ := x
  obtain ⟨⟨a', b'⟩, ⟨c', d'⟩, e', f', g'⟩ := y
  simp only [Prod.mk.injEq]
def outL (xs l : List tNote.den) : List tNote.den := l.filter fun y => !hitB xs y
def preL (xs l : List tNote.den) : List tNote.den := (l.takeWhile fun y => !badB xs y).filter fun y => !hitB xs y
theorem any_step {p : tNote.den → Bool} {l : List tNote.den} {i : Nat} (h : i < l.length) : (l.drop i).any p = (p (l.getD i tNote.zero) || (l.drop (i + 1)).any p) := by
  rw [List.drop_eq_getElem_cons h, getD_lt _ _ _ h, List.any_cons]
theorem outL_step (xs l : List tNote.den) (i : Nat) (h : i < l.length) : outL xs (l.drop i) = (if (!hitB xs (l.getD i tNote.zero)) = true then [l.getD i tNote.zero] else []) ++ outL xs (l.drop (i + 1)) := filter_step _ l i tNote.zero h
theorem preL_bad (xs l : List tNote.den) (i : Nat) (h : i < l.length) (hb : badB xs (l.getD i tNote.zero) = true) : preL xs (l.drop i) = [] := by
  unfold preL
  rw [getD_lt _ _ _ h] at hb
  rw [List.drop_eq_getElem_cons h, List.takeWhile_cons, hb]
  rfl
theorem preL_step (xs l : List tNote.den) (i : Nat) (h : i < l.length) (hb : badB xs (l.getD i tNote.zero) = false) : preL xs (l.drop i) = (if (!hitB xs (l.getD i tNote.zero)) = true then [l.getD i tNote.zero] else []) ++ preL xs (l.drop (i + 1)) := by
  unfold preL
  rw [getD_lt _ _ _ h] at hb
  rw [List.drop_eq_getElem_cons h, List.takeWhile_cons, hb, getD_lt _ _ _ h]
  simp only [Bool.not_false, if_true, List.filter_cons]
  split <;> simp
def ann_hasN_0 : LAnn := { sameS := [3, 7, 8], modS := [4, 9], sameH := [3], modH := [], base := 900000, nilE := [], nilB := [], G := fun
  | ⟨[.ptr 3 0, .view (.pair (.pair (.int .i64) (.int .i64)) (.pair (.pair (.int .i64) (.int .i64)) (.pair (.int .i64) (.pair (.int .i64) (.int .i64))))) xs, .int .i64 n], [.box [.int .i64 a, .int .i64 b, .int .i64 c, .int .i64 d, .int .i64 ky, .int .i64 ve, .int .i64 ch]], [.bool r, .int .i64 i], []⟩ => some (.p ((0 ≤ i ∧ i ≤ n) ∧ n = (xs.length : Int) ∧ n ≤ 9223372036854775807), .ite (decide ((((a, b), (c, d), ky, ve, ch) : tNote.den) ∈ xs.drop i.toNat)) (.leaf .ret [.bool true, .unk] []) (.leaf (.exit 0) [.bool r, .unk] []))
  | _ => none }
def ct_hasN : Ct := ctOf [.v qNote, .s tNote] (fun ((xs : List tNote.den), (x : tNote.den), _) => .p ((xs.length : Int) ≤ 9223372036854775807)) (fun ((xs : List tNote.den), (x : tNote.den), _) => .bool (decide (x ∈ xs)))
set_option maxHeartbeats 1000000 in
theorem loop_hasN_0 : LoopSat Try.prog Try.f76.ntmps (loopAt Try.f76 0) ann_hasN_0 := by
  refine loopSat_of (C := C_Sf) (L := (addL (firstId (loopAt Try.f76 0)) ann_hasN_0 noL)) (wr := false) mixedOk C_Sf_ok (loopsIn0 (by kernel_rfl)) (fun d => match d.same, d.vals with | [_, _, .int _ n], [_, .int _ i] => (n - i).toNat | _, _ => 0) fun d p t hG hp => ?_
  simp only [ann_hasN_0] at hG
  split at hG
  rotate_left
  · simp at hG
  rename_i xs n a b c d ky ve ch r i
  simp only [Option.some.injEq, Prod.mk.injEq] at hG
  obtain ⟨rfl, rfl⟩ := hG
  have htree : exRound Try.prog C_Sf false (addL (firstId (loopAt Try.f76 0)) ann_hasN_0 noL) Try.f76.ntmps ann_hasN_0 (loopAt Try.f76 0) ⟨[.ptr 3 0, .view tNote xs, .int .i64 n], [.box [.int .i64 a, .int .i64 b, .int .i64 c, .int .i64 d, .int .i64 ky, .int .i64 ve, .int .i64 ch]], [.bool r, .int .i64 i], []⟩ = .ite (decide (i < n)) (.need ((0 : Int) ≤ i ∧ i < (↑xs.length : Int)) (.ite (a == (getT tNote xs i).fst.fst && b == (getT tNote xs i).fst.snd && (c == (getT tNote xs i).snd.fst.fst && d == (getT tNote xs i).snd.fst.snd && (ky == (getT tNote xs i).snd.snd.fst && (ve == (getT tNote xs i).snd.snd.snd.fst && ch == (getT tNote xs i).snd.snd.snd.snd)))) (.leaf (.ret, ⟨[.ptr 3 0, .view (tFrac.pair (tFrac.pair (I64.pair (I64.pair I64)))) (xs), .int .i64 (n)], [.box [.int .i64 (a), .int .i64 (b), .int .i64 (c), .int .i64 (d), .int .i64 (ky), .int .i64 (ve), .int .i64 (ch)]], [.bool (true), .int .i64 (i)], []⟩)) (.need (inK IntKind.i64 (i + (1 : Int))) (.leaf (.normal, ⟨[.ptr 3 0, .view (tFrac.pair (tFrac.pair (I64.pair (I64.pair I64)))) (xs), .int .i64 (n)], [.box [.int .i64 (a), .int .i64 (b), .int .i64 (c), .int .i64 (d), .int .i64 (ky), .int .i64 (ve), .int .i64 (ch)]], [.bool (r), .int .i64 (i + (1 : Int))], []⟩))))) (.leaf ((.exit 0), ⟨[.ptr 3 0, .view (tFrac.pair (tFrac.pair (I64.pair (I64.pair I64)))) (xs), .int .i64 (n)], [.box [.int .i64 (a), .int .i64 (b), .int .i64 (c), .int .i64 (d), .int .i64 (ky), .int .i64 (ve), .int .i64 (ch)]], [.bool (r), .int .i64 (i)], []⟩)) := by kernel_rfl
  rw [htree]
  clear htree
  replace hp : (0 ≤ i ∧ i ≤ n) ∧ n = (xs.length : Int) ∧ n ≤ 9223372036854775807 := hp
  simp only [Tree.ok, packAV, AV.same, AV.same.sameL, encV, encS, enc, inK, Nd.ok, List.headD_cons, List.cons_append, List.nil_append, List.append_nil, true_and, and_true, Bool.true_and, Bool.and_true, loop_next, weakBs_nil, weakBs_cons, weakB_self, weakB_row, weakB_int, weakL_nil, weakL_unk, weakL_int, weakL_bool, weakL_str, weakL_own, weakL_view, weakL_nilS, noRow_int, noRow_bool, own_inj, LTree.val, cond_true, cond_false, Prod.mk.injEq, List.cons.injEq, AV.int.injEq, AV.bool.injEq, AV.str.injEq, AV.agg.injEq, ann_hasN_0, decide_eq_true_eq, decide_eq_false_iff_not]
  simp only [getT]
  refine ⟨fun ha => ?_, fun ha => ?_⟩
  · have h1 := mem_step (((a, b), (c, d), ky, ve, ch) : tNote.den) (xs := xs) (i := i.toNat) (by omega)
    have h3 := eqN_dec (((a, b), (c, d), ky, ve, ch) : tNote.den) (xs.getD i.toNat tNote.zero)
    simp only at h3
    simp only [h3]
    have h2 : decide ((((a, b), (c, d), ky, ve, ch) : tNote.den) ∈ xs.drop i.toNat) = (decide ((((a, b), (c, d), ky, ve, ch) : tNote.den) = xs.getD i.toNat tNote.zero) || decide ((((a, b), (c, d), ky, ve, ch) : tNote.den) ∈ xs.drop (i.toNat + 1))) := by
      rw [Bool.eq_iff_iff]; simp only [decide_eq_true_eq, Bool.or_eq_true]; exact h1
    rw [show (i + 1).toNat = i.toNat + 1 by omega, h2]
    clear h1 h2 h3
    generalize decide ((((a, b), (c, d), ky, ve, ch) : tNote.den) = xs.getD i.toNat tNote.zero) = p
    cases p
    · rw [Bool.false_or]
      repeat' first | apply And.intro | intro _
      all_goals first | omega | trivial | rfl | contradiction | (simp [Tree.ok, packAV, AV.same, AV.same.sameL, encV, encS, enc, inK, Nd.ok, List.headD_cons, List.cons_append, List.nil_append, List.append_nil, true_and, and_true, Bool.true_and, Bool.and_true, loop_next, weakBs_nil, weakBs_cons, weakB_self, weakB_row, weakB_int, weakL_nil, weakL_unk, weakL_int, weakL_bool, weakL_str, weakL_own, weakL_view, weakL_nilS, noRow_int, noRow_bool, own_inj, LTree.val, cond_true, cond_false, Prod.mk.injEq, List.cons.injEq, AV.int.injEq, AV.bool.injEq, AV.str.injEq, AV.agg.injEq]; done)
    · rw [Bool.true_or]
      repeat' first | apply And.intro | intro _
      all_goals first | omega | trivial | rfl | contradiction | (simp [Tree.ok, packAV, AV.same, AV.same.sameL, encV, encS, enc, inK, Nd.ok, List.headD_cons, List.cons_append, List.nil_append, List.append_nil, true_and, and_true, Bool.true_and, Bool.and_true, loop_next, weakBs_nil, weakBs_cons, weakB_self, weakB_row, weakB_int, weakL_nil, weakL_unk, weakL_int, weakL_bool, weakL_str, weakL_own, weakL_view, weakL_nilS, noRow_int, noRow_bool, own_inj, LTree.val, cond_true, cond_false, Prod.mk.injEq, List.cons.injEq, AV.int.injEq, AV.bool.injEq, AV.str.injEq, AV.agg.injEq]; done)
  · rw [show i.toNat = xs.length by omega, List.drop_length]
    simp [Tree.ok, packAV, AV.same, AV.same.sameL, encV, encS, enc, inK, Nd.ok, List.headD_cons, List.cons_append, List.nil_append, List.append_nil, true_and, and_true, Bool.true_and, Bool.and_true, loop_next, weakBs_nil, weakBs_cons, weakB_self, weakB_row, weakB_int, weakL_nil, weakL_unk, weakL_int, weakL_bool, weakL_str, weakL_own, weakL_view, weakL_nilS, noRow_int, noRow_bool, own_inj, LTree.val, cond_true, cond_false, Prod.mk.injEq, List.cons.injEq, AV.int.injEq, AV.bool.injEq, AV.str.injEq, AV.agg.injEq]
theorem loops_hasN : ∀ c, Try.f76.body = some c → LoopsOk Try.prog (addL (firstId (loopAt Try.f76 0)) ann_hasN_0 noL) Try.f76.ntmps c := loopsN fun i hi ann h => by
  have hn : loopN Try.f76 = 1 := by kernel_rfl
  rw [hn] at hi
  exact match i, hi, h with
    | 0, _, h => (Option.some.inj ((show (addL (firstId (loopAt Try.f76 0)) ann_hasN_0 noL) (firstId (loopAt Try.f76 0)) = some ann_hasN_0 from by kernel_rfl).symm.trans h)) ▸ loop_hasN_0
set_option maxHeartbeats 1000000 in
theorem sat_hasN : Sat Try.prog 76 ct_hasN := by
  refine sat_typed (C := C_Sf) (L := (addL (firstId (loopAt Try.f76 0)) ann_hasN_0 noL)) (wr := false) mixedOk Try.func76 C_Sf_ok (loops_hasN) (fun _ => by first | rfl | (simp [ownsOf, ownsOf.ownsL, enc, encV, encS])) fun x hp => ?_
  obtain ⟨(xs : List tNote.den), (x : tNote.den), _⟩ := x
  replace hp : (xs.length : Int) ≤ 9223372036854775807 := hp
  have htree : exFunc Try.prog C_Sf false (addL (firstId (loopAt Try.f76 0)) ann_hasN_0 noL) Try.f76 (encA [.v qNote, .s tNote] (xs, x, ())) = .need (((0 : Int) ≤ (0 : Int) ∧ (0 : Int) ≤ (↑xs.length : Int)) ∧ (↑xs.length : Int) = (↑xs.length : Int) ∧ (↑xs.length : Int) ≤ (9223372036854775807 : Int)) (.ite (decide (((x.fst.fst, x.fst.snd), (x.snd.fst.fst, x.snd.fst.snd), x.snd.snd.fst, x.snd.snd.snd.fst, x.snd.snd.snd.snd) ∈ List.drop (Int.toNat (0 : Int)) xs)) (.leaf [.bool (true)]) (.leaf [.lit false])) := by kernel_rfl
  refine (congrArg (Tree.ok _) htree).mpr ?_
  clear htree
  simp only [Tree.ok, packAV, AV.same, AV.same.sameL, encV, encS, enc, inK, Nd.ok, List.headD_cons, List.cons_append, List.nil_append, List.append_nil, true_and, and_true, Bool.true_and, Bool.and_true, Int.toNat_zero, List.drop_zero, decide_eq_true_eq, decide_eq_false_iff_not]
  try simp only [etaN]
  refine ⟨by omega, fun h => ?_, fun h => ?_⟩
  · simp [h]
  · simp [h]
def C_Sg_1 : FuncId → Option Ct := addC 76 ct_hasN C_Sf
theorem C_Sg_1_ok : COk Try.prog C_Sg_1 := addC_ok C_Sf_ok sat_hasN
def ann_iMerge_0 : LAnn := { sameS := [2, 4, 5, 22, 23], modS := [6, 24], sameH := [2, 4], modH := [], base := 900000, nilE := [], nilB := [], G := fun
  | ⟨[.ptr 2 0, .ptr 4 0, .int .i64 r, .view (.pair (.pair (.int .i64) (.int .i64)) (.pair (.pair (.int .i64) (.int .i64)) (.pair (.int .i64) (.pair (.int .i64) (.int .i64))))) ys, .int .i64 n], [.box [.view (.pair (.pair (.int .i64) (.int .i64)) (.pair (.pair (.int .i64) (.int .i64)) (.pair (.int .i64) (.pair (.int .i64) (.int .i64))))) xs], .box [.nilS]], [.own (.pair (.pair (.int .i64) (.int .i64)) (.pair (.pair (.int .i64) (.int .i64)) (.pair (.int .i64) (.pair (.int .i64) (.int .i64))))) out, .int .i64 i], []⟩ => some (.p ((0 ≤ i ∧ i ≤ n) ∧ n = (ys.length : Int) ∧ ys.length ≤ 60 ∧ (out.length : Int) ≤ 60 + i ∧ xs.length ≤ 60), .leaf (.exit 0) [.own tNote (out ++ newL xs (ys.drop i.toNat)), .int .i64 n] [])
  | _ => none }
def ct_iMerge : Ct := ctOf [.s qNote, .s qNote] (fun ((xs : List tNote.den), (ys : List tNote.den), _) => .p ((xs.length : Int) ≤ 9223372036854775807 ∧ (ys.length : Int) ≤ 9223372036854775807)) (fun ((xs : List tNote.den), (ys : List tNote.den), _) => .tup [.agg [.own tNote (mergeS xs ys).1], .int .i64 (mergeS xs ys).2])
set_option maxHeartbeats 1000000 in
theorem loop_iMerge_0 : LoopSat Try.prog Try.f34.ntmps (loopAt Try.f34 0) ann_iMerge_0 := by
  refine loopSat_of (C := C_Sg_1) (L := (addL (firstId (loopAt Try.f34 0)) ann_iMerge_0 noL)) (wr := false) mixedOk C_Sg_1_ok (loopsIn0 (by kernel_rfl)) (fun d => match d.same, d.vals with | [_, _, _, _, .int _ n], [_, .int _ i] => (n - i).toNat | _, _ => 0) fun d p t hG hp => ?_
  simp only [ann_iMerge_0] at hG
  split at hG
  rotate_left
  · simp at hG
  rename_i r ys n xs out i
  simp only [Option.some.injEq, Prod.mk.injEq] at hG
  obtain ⟨rfl, rfl⟩ := hG
  have htree : exRound Try.prog C_Sg_1 false (addL (firstId (loopAt Try.f34 0)) ann_iMerge_0 noL) Try.f34.ntmps ann_iMerge_0 (loopAt Try.f34 0) ⟨[.ptr 2 0, .ptr 4 0, .int .i64 r, .view tNote ys, .int .i64 n], [.box [.view tNote xs], .box [.nilS]], [.own tNote out, .int .i64 i], []⟩ = .ite (decide (i < n)) (.need ((0 : Int) ≤ i ∧ i < (↑ys.length : Int)) (.need ((↑xs.length : Int) ≤ (9223372036854775807 : Int)) (.ite (!decide ((((getT tNote ys i).fst.fst, (getT tNote ys i).fst.snd), ((getT tNote ys i).snd.fst.fst, (getT tNote ys i).snd.fst.snd), (getT tNote ys i).snd.snd.fst, (getT tNote ys i).snd.snd.snd.fst, (getT tNote ys i).snd.snd.snd.snd) ∈ xs)) (.need (out.length + [(((getT tNote ys i).fst.fst, (getT tNote ys i).fst.snd), ((getT tNote ys i).snd.fst.fst, (getT tNote ys i).snd.fst.snd), (getT tNote ys i).snd.snd.fst, (getT tNote ys i).snd.snd.snd.fst, (getT tNote ys i).snd.snd.snd.snd)].length ≤ (16777216 : Nat)) (.need (inK IntKind.i64 (i + (1 : Int))) (.leaf (.normal, ⟨[.ptr 2 0, .ptr 4 0, .int .i64 (r), .view (tFrac.pair (tFrac.pair (I64.pair (I64.pair I64)))) (ys), .int .i64 (n)], [.box [.view (tFrac.pair (tFrac.pair (I64.pair (I64.pair I64)))) (xs)], .box [.nilS]], [.own (tFrac.pair (tFrac.pair (I64.pair (I64.pair I64)))) (out ++ [(((getT tNote ys i).fst.fst, (getT tNote ys i).fst.snd), ((getT tNote ys i).snd.fst.fst, (getT tNote ys i).snd.fst.snd), (getT tNote ys i).snd.snd.fst, (getT tNote ys i).snd.snd.snd.fst, (getT tNote ys i).snd.snd.snd.snd)]), .int .i64 (i + (1 : Int))], []⟩)))) (.need (inK IntKind.i64 (i + (1 : Int))) (.leaf (.normal, ⟨[.ptr 2 0, .ptr 4 0, .int .i64 (r), .view (tFrac.pair (tFrac.pair (I64.pair (I64.pair I64)))) (ys), .int .i64 (n)], [.box [.view (tFrac.pair (tFrac.pair (I64.pair (I64.pair I64)))) (xs)], .box [.nilS]], [.own (tFrac.pair (tFrac.pair (I64.pair (I64.pair I64)))) (out), .int .i64 (i + (1 : Int))], []⟩)))))) (.leaf ((.exit 0), ⟨[.ptr 2 0, .ptr 4 0, .int .i64 (r), .view (tFrac.pair (tFrac.pair (I64.pair (I64.pair I64)))) (ys), .int .i64 (n)], [.box [.view (tFrac.pair (tFrac.pair (I64.pair (I64.pair I64)))) (xs)], .box [.nilS]], [.own (tFrac.pair (tFrac.pair (I64.pair (I64.pair I64)))) (out), .int .i64 (i)], []⟩)) := by kernel_rfl
  rw [htree]
  clear htree
  replace hp : (0 ≤ i ∧ i ≤ n) ∧ n = (ys.length : Int) ∧ ys.length ≤ 60 ∧ (out.length : Int) ≤ 60 + i ∧ xs.length ≤ 60 := hp
  simp only [Tree.ok, packAV, AV.same, AV.same.sameL, encV, encS, enc, inK, Nd.ok, List.headD_cons, List.cons_append, List.nil_append, List.append_nil, true_and, and_true, Bool.true_and, Bool.and_true, loop_next, weakBs_nil, weakBs_cons, weakB_self, weakB_row, weakB_int, weakL_nil, weakL_unk, weakL_int, weakL_bool, weakL_str, weakL_own, weakL_view, weakL_nilS, noRow_int, noRow_bool, own_inj, LTree.val, cond_true, cond_false, Prod.mk.injEq, List.cons.injEq, AV.int.injEq, AV.bool.injEq, AV.str.injEq, AV.agg.injEq, ann_iMerge_0, decide_eq_true_eq, decide_eq_false_iff_not, Bool.not_eq_true', Bool.not_eq_false']
  simp only [getT, etaN]
  refine ⟨fun ha => ?_, fun ha => ?_⟩
  · have h1 := newL_step xs ys i.toNat (by omega)
    rw [show (i + 1).toNat = i.toNat + 1 by omega, h1]
    simp only [List.length_append, List.length_cons, List.length_nil]
    by_cases hm : ys.getD i.toNat tNote.zero ∈ xs
    · simp only [hm, decide_true, not_true, Bool.not_true, Bool.false_eq_true, if_false, List.nil_append]
      repeat' first | apply And.intro | intro _
      all_goals first | omega | trivial | rfl | contradiction | exact hp.2.2.1 | exact hp.2.2.2.2
    · simp only [hm, decide_false, not_false_eq_true, Bool.not_false, if_true, List.append_assoc]
      repeat' first | apply And.intro | intro _
      all_goals first | omega | trivial | rfl | contradiction | exact hp.2.2.1 | exact hp.2.2.2.2
  · rw [show i.toNat = ys.length by omega, List.drop_length]
    simp [Tree.ok, packAV, AV.same, AV.same.sameL, encV, encS, enc, inK, Nd.ok, List.headD_cons, List.cons_append, List.nil_append, List.append_nil, true_and, and_true, Bool.true_and, Bool.and_true, loop_next, weakBs_nil, weakBs_cons, weakB_self, weakB_row, weakB_int, weakL_nil, weakL_unk, weakL_int, weakL_bool, weakL_str, weakL_own, weakL_view, weakL_nilS, noRow_int, noRow_bool, own_inj, LTree.val, cond_true, cond_false, Prod.mk.injEq, List.cons.injEq, AV.int.injEq, AV.bool.injEq, AV.str.injEq, AV.agg.injEq, newL]
    omega
theorem loops_iMerge : ∀ c, Try.f34.body = some c → LoopsOk Try.prog (addL (firstId (loopAt Try.f34 0)) ann_iMerge_0 noL) Try.f34.ntmps c := loopsN fun i hi ann h => by
  have hn : loopN Try.f34 = 1 := by kernel_rfl
  rw [hn] at hi
  exact match i, hi, h with
    | 0, _, h => (Option.some.inj ((show (addL (firstId (loopAt Try.f34 0)) ann_iMerge_0 noL) (firstId (loopAt Try.f34 0)) = some ann_iMerge_0 from by kernel_rfl).symm.trans h)) ▸ loop_iMerge_0
set_option maxHeartbeats 1000000 in
theorem sat_iMerge : Sat Try.prog 34 ct_iMerge := by
  refine sat_typed (C := C_Sg_1) (L := (addL (firstId (loopAt Try.f34 0)) ann_iMerge_0 noL)) (wr := false) mixedOk Try.func34 C_Sg_1_ok (loops_iMerge) (fun _ => by first | rfl | (simp [ownsOf, ownsOf.ownsL, enc, encV, encS])) fun x hp => ?_
  obtain ⟨(xs : List tNote.den), (ys : List tNote.den), _⟩ := x
  replace hp : (xs.length : Int) ≤ 9223372036854775807 ∧ (ys.length : Int) ≤ 9223372036854775807 := hp
  have htree : exFunc Try.prog C_Sg_1 false (addL (firstId (loopAt Try.f34 0)) ann_iMerge_0 noL) Try.f34 (encA [.s qNote, .s qNote] (xs, ys, ())) = .need ((↑xs.length : Int) ≤ (9223372036854775807 : Int)) (.ite (!scoreF xs) (.leaf [.agg [.nilS], .int .i64 ((1 : Int))]) (.need ((↑ys.length : Int) ≤ (9223372036854775807 : Int)) (.ite (!scoreF ys) (.leaf [.agg [.nilS], .int .i64 ((1 : Int))]) (.need (xs.length ≤ (16777216 : Nat)) (.need (((0 : Int) ≤ (0 : Int) ∧ (0 : Int) ≤ (↑ys.length : Int)) ∧ (↑ys.length : Int) = (↑ys.length : Int) ∧ ys.length ≤ (60 : Nat) ∧ (↑xs.length : Int) ≤ (60 : Int) + (0 : Int) ∧ xs.length ≤ (60 : Nat)) (.need ((xs ++ newL xs (List.drop (Int.toNat (0 : Int)) ys)).length ≤ (1000 : Nat) ∧ AllOk goodN (xs ++ newL xs (List.drop (Int.toNat (0 : Int)) ys))) (.need ((srt ltN (xs ++ newL xs (List.drop (Int.toNat (0 : Int)) ys))).length ≤ (1000 : Nat) ∧ AllOk goodN (srt ltN (xs ++ newL xs (List.drop (Int.toNat (0 : Int)) ys)))) (.ite (twinB (srt ltN (xs ++ newL xs (List.drop (Int.toNat (0 : Int)) ys)))) (.leaf [.agg [.nilS], .int .i64 ((4 : Int))]) (.ite (decide ((60 : Int) < (↑(srt ltN (xs ++ newL xs (List.drop (Int.toNat (0 : Int)) ys))).length : Int))) (.leaf [.agg [.nilS], .int .i64 ((5 : Int))]) (.leaf [.agg [.own (tFrac.pair (tFrac.pair (I64.pair (I64.pair I64)))) (srt ltN (xs ++ newL xs (List.drop (Int.toNat (0 : Int)) ys)))], .int .i64 ((0 : Int))])))))))))) := by kernel_rfl
  refine (congrArg (Tree.ok _) htree).mpr ?_
  clear htree
  have hx := @scoreN xs
  have hy := @scoreN ys
  have ho : scoreF xs = true → scoreF ys = true → AllOk goodN (xs ++ newL xs ys) := fun h1 h2 => AllOk.app.2 ⟨notesOk (hx h1).2, fun z hz => notesOk (hy h2).2 z (List.mem_filter.1 hz).1⟩
  have hl : (newL xs ys).length ≤ ys.length := List.length_filter_le _ _
  have e : (xs ++ newL xs ys).length = xs.length + (newL xs ys).length := List.length_append
  simp only [Tree.ok, packAV, AV.same, AV.same.sameL, encV, encS, enc, inK, Nd.ok, List.headD_cons, List.cons_append, List.nil_append, List.append_nil, true_and, and_true, Bool.true_and, Bool.and_true, mergeS, Int.toNat_zero, List.drop_zero, srt_len, decide_eq_true_eq, decide_eq_false_iff_not]
  generalize xs ++ newL xs ys = zs at *
  cases h0 : scoreF xs
  · simp; omega
  · cases h1 : scoreF ys
    · simp; omega
    · have ho := ho h0 h1
      have hx := hx h0
      have hy := hy h1
      cases h3 : twinB (srt ltN zs)
      · by_cases h4 : 60 < (zs.length : Int)
        all_goals
          simp only [h4]
          simp
          repeat' first | apply And.intro | intro _
          all_goals first | omega | exact ho _ ‹_› | exact ho.srt _ ‹_› | exact hx.1 | exact hy.1 | trivial | (exfalso; omega)
      · simp
        repeat' first | apply And.intro | intro _
        all_goals first | omega | exact ho _ ‹_› | exact ho.srt _ ‹_› | exact hx.1 | exact hy.1 | trivial
def C_Sg_2 : FuncId → Option Ct := addC 34 ct_iMerge C_Sg_1
theorem C_Sg_2_ok : COk Try.prog C_Sg_2 := addC_ok C_Sg_1_ok sat_iMerge
def ann_sMerge_0 : LAnn := { sameS := [2, 3, 4], modS := [5, 6, 7], sameH := [2, 3, 4], modH := [], base := 900000, nilE := [], nilB := [], G := fun
  | ⟨[.ptr 2 0, .ptr 3 0, .ptr 4 0], [.box [.view (.pair (.pair (.int .i64) (.int .i64)) (.pair (.pair (.int .i64) (.int .i64)) (.pair (.int .i64) (.pair (.int .i64) (.int .i64))))) xs], .box [.view (.pair (.pair (.int .i64) (.int .i64)) (.pair (.pair (.int .i64) (.int .i64)) (.pair (.int .i64) (.pair (.int .i64) (.int .i64))))) ys], .box [.nilS]], [.int .i64 r, .own (.pair (.pair (.int .i64) (.int .i64)) (.pair (.pair (.int .i64) (.int .i64)) (.pair (.int .i64) (.pair (.int .i64) (.int .i64))))) out, .int .i64 i], []⟩ => some (.p (((0 ≤ i ∧ i ≤ (ys.length : Int)) ∧ ys.length ≤ 60 ∧ (out.length : Int) ≤ 60 + i ∧ xs.length ≤ 60) ∧ notesF xs = true ∧ notesF ys = true), .ite ((ys.drop i.toNat).any (badB xs)) (.leaf .ret [.int .i64 4, .own tNote (out ++ preL xs (ys.drop i.toNat)), .unk] []) (.leaf (.exit 0) [.int .i64 r, .own tNote (out ++ outL xs (ys.drop i.toNat)), .unk] []))
  | _ => none }
def ann_sMerge_1 : LAnn := { sameS := [2, 3, 4, 7], modS := [5, 6, 8, 9], sameH := [2, 3, 4], modH := [], base := 900000, nilE := [], nilB := [], G := fun
  | ⟨[.ptr 2 0, .ptr 3 0, .ptr 4 0, .int .i64 i], [.box [.view (.pair (.pair (.int .i64) (.int .i64)) (.pair (.pair (.int .i64) (.int .i64)) (.pair (.int .i64) (.pair (.int .i64) (.int .i64))))) xs], .box [.view (.pair (.pair (.int .i64) (.int .i64)) (.pair (.pair (.int .i64) (.int .i64)) (.pair (.int .i64) (.pair (.int .i64) (.int .i64))))) ys], .box [.nilS]], [.int .i64 r, .own (.pair (.pair (.int .i64) (.int .i64)) (.pair (.pair (.int .i64) (.int .i64)) (.pair (.int .i64) (.pair (.int .i64) (.int .i64))))) out, .bool tw, .int .i64 k], []⟩ => some (.p (((0 ≤ k ∧ k ≤ (xs.length : Int)) ∧ (0 ≤ i ∧ i < (ys.length : Int)) ∧ xs.length ≤ 60) ∧ notesF xs = true ∧ notesF ys = true), .ite (badB (xs.drop k.toNat) (ys.getD i.toNat tNote.zero)) (.leaf .ret [.int .i64 4, .own tNote out, .unk, .unk] []) (.leaf (.exit 2) [.int .i64 r, .own tNote out, .bool (tw || hitB (xs.drop k.toNat) (ys.getD i.toNat tNote.zero)), .unk] []))
  | _ => none }
def ct_sMerge : Ct := ctOf [.s qNote, .s qNote] (fun ((xs : List tNote.den), (ys : List tNote.den), _) => .p ((xs.length : Int) ≤ 9223372036854775807 ∧ (ys.length : Int) ≤ 9223372036854775807)) (fun ((xs : List tNote.den), (ys : List tNote.den), _) => .tup [.agg [.own tNote (mergeS xs ys).1], .int .i64 (mergeS xs ys).2])
set_option maxHeartbeats 1000000 in
theorem loop_sMerge_1 : LoopSat Try.prog Try.f33.ntmps (loopAt Try.f33 1) ann_sMerge_1 := by
  refine loopSat_of (C := C_Sg_2) (L := (addL (firstId (loopAt Try.f33 1)) ann_sMerge_1 (addL (firstId (loopAt Try.f33 0)) ann_sMerge_0 noL))) (wr := false) mixedOk C_Sg_2_ok (loopsIn0 (by kernel_rfl)) (fun d => match d.blk, d.vals with | [.box [.view _ xs], _, _], [_, _, _, .int _ k] => ((xs.length : Int) - k).toNat | _, _ => 0) fun d p t hG hp => ?_
  simp only [ann_sMerge_1] at hG
  split at hG
  rotate_left
  · simp at hG
  rename_i i xs ys r out tw k
  simp only [Option.some.injEq, Prod.mk.injEq] at hG
  obtain ⟨rfl, rfl⟩ := hG
  have htree : exRound Try.prog C_Sg_2 false (addL (firstId (loopAt Try.f33 1)) ann_sMerge_1 (addL (firstId (loopAt Try.f33 0)) ann_sMerge_0 noL)) Try.f33.ntmps ann_sMerge_1 (loopAt Try.f33 1) ⟨[.ptr 2 0, .ptr 3 0, .ptr 4 0, .int .i64 i], [.box [.view tNote xs], .box [.view tNote ys], .box [.nilS]], [.int .i64 r, .own tNote out, .bool tw, .int .i64 k], []⟩ = .ite (decide (k < (↑xs.length : Int))) (.need ((0 : Int) ≤ k ∧ k < (↑xs.length : Int)) (.need ((0 : Int) ≤ i ∧ i < (↑ys.length : Int)) (.need (noteF (((getT tNote xs k).fst.fst, (getT tNote xs k).fst.snd), ((getT tNote xs k).snd.fst.fst, (getT tNote xs k).snd.fst.snd), (getT tNote xs k).snd.snd.fst, (getT tNote xs k).snd.snd.snd.fst, (getT tNote xs k).snd.snd.snd.snd) = true ∧ noteF (((getT tNote ys i).fst.fst, (getT tNote ys i).fst.snd), ((getT tNote ys i).snd.fst.fst, (getT tNote ys i).snd.fst.snd), (getT tNote ys i).snd.snd.fst, (getT tNote ys i).snd.snd.snd.fst, (getT tNote ys i).snd.snd.snd.snd) = true) (.ite (cmpN (((getT tNote xs k).fst.fst, (getT tNote xs k).fst.snd), ((getT tNote xs k).snd.fst.fst, (getT tNote xs k).snd.fst.snd), (getT tNote xs k).snd.snd.fst, (getT tNote xs k).snd.snd.snd.fst, (getT tNote xs k).snd.snd.snd.snd) (((getT tNote ys i).fst.fst, (getT tNote ys i).fst.snd), ((getT tNote ys i).snd.fst.fst, (getT tNote ys i).snd.fst.snd), (getT tNote ys i).snd.snd.fst, (getT tNote ys i).snd.snd.snd.fst, (getT tNote ys i).snd.snd.snd.snd) != (0 : Int)) (.need (inK IntKind.i64 (k + (1 : Int))) (.leaf (.normal, ⟨[.ptr 2 0, .ptr 3 0, .ptr 4 0, .int .i64 (i)], [.box [.view (tFrac.pair (tFrac.pair (I64.pair (I64.pair I64)))) (xs)], .box [.view (tFrac.pair (tFrac.pair (I64.pair (I64.pair I64)))) (ys)], .box [.nilS]], [.int .i64 (r), .own (tFrac.pair (tFrac.pair (I64.pair (I64.pair I64)))) (out), .bool (tw), .int .i64 (k + (1 : Int))], []⟩))) (.need ((0 : Int) ≤ k ∧ k < (↑xs.length : Int)) (.need ((0 : Int) ≤ i ∧ i < (↑ys.length : Int)) (.ite (!((getT tNote xs k).fst.fst == (getT tNote ys i).fst.fst && (getT tNote xs k).fst.snd == (getT tNote ys i).fst.snd && ((getT tNote xs k).snd.fst.fst == (getT tNote ys i).snd.fst.fst && (getT tNote xs k).snd.fst.snd == (getT tNote ys i).snd.fst.snd && ((getT tNote xs k).snd.snd.fst == (getT tNote ys i).snd.snd.fst && ((getT tNote xs k).snd.snd.snd.fst == (getT tNote ys i).snd.snd.snd.fst && (getT tNote xs k).snd.snd.snd.snd == (getT tNote ys i).snd.snd.snd.snd))))) (.leaf (.ret, ⟨[.ptr 2 0, .ptr 3 0, .ptr 4 0, .int .i64 (i)], [.box [.view (tFrac.pair (tFrac.pair (I64.pair (I64.pair I64)))) (xs)], .box [.view (tFrac.pair (tFrac.pair (I64.pair (I64.pair I64)))) (ys)], .box [.nilS]], [.int .i64 ((4 : Int)), .own (tFrac.pair (tFrac.pair (I64.pair (I64.pair I64)))) (out), .bool (tw), .int .i64 (k)], []⟩)) (.need (inK IntKind.i64 (k + (1 : Int))) (.leaf (.normal, ⟨[.ptr 2 0, .ptr 3 0, .ptr 4 0, .int .i64 (i)], [.box [.view (tFrac.pair (tFrac.pair (I64.pair (I64.pair I64)))) (xs)], .box [.view (tFrac.pair (tFrac.pair (I64.pair (I64.pair I64)))) (ys)], .box [.nilS]], [.int .i64 (r), .own (tFrac.pair (tFrac.pair (I64.pair (I64.pair I64)))) (out), .bool (true), .int .i64 (k + (1 : Int))], []⟩)))))))))) (.leaf ((.exit 2), ⟨[.ptr 2 0, .ptr 3 0, .ptr 4 0, .int .i64 (i)], [.box [.view (tFrac.pair (tFrac.pair (I64.pair (I64.pair I64)))) (xs)], .box [.view (tFrac.pair (tFrac.pair (I64.pair (I64.pair I64)))) (ys)], .box [.nilS]], [.int .i64 (r), .own (tFrac.pair (tFrac.pair (I64.pair (I64.pair I64)))) (out), .bool (tw), .int .i64 (k)], []⟩)) := by kernel_rfl
  rw [htree]
  clear htree
  replace hp : ((0 ≤ k ∧ k ≤ (xs.length : Int)) ∧ (0 ≤ i ∧ i < (ys.length : Int)) ∧ xs.length ≤ 60) ∧ notesF xs = true ∧ notesF ys = true := hp
  simp only [Tree.ok, packAV, AV.same, AV.same.sameL, encV, encS, enc, inK, Nd.ok, List.headD_cons, List.cons_append, List.nil_append, List.append_nil, true_and, and_true, Bool.true_and, Bool.and_true, loop_next, weakBs_nil, weakBs_cons, weakB_self, weakB_row, weakB_int, weakL_nil, weakL_unk, weakL_int, weakL_bool, weakL_str, weakL_own, weakL_view, weakL_nilS, noRow_int, noRow_bool, own_inj, LTree.val, cond_true, cond_false, Prod.mk.injEq, List.cons.injEq, AV.int.injEq, AV.bool.injEq, AV.str.injEq, AV.agg.injEq, ann_sMerge_1, decide_eq_true_eq, decide_eq_false_iff_not, Bool.not_eq_true', Bool.not_eq_false', bne_iff_ne, ne_eq, bne_eq_false_iff_eq]
  simp only [getT, etaN]
  refine ⟨fun ha => ?_, fun ha => ?_⟩
  · have g1 := notesF_get hp.2.1 k.toNat tNote.zero (by omega)
    have g2 := notesF_get hp.2.2 i.toNat tNote.zero (by omega)
    have h1 : badB (xs.drop k.toNat) (ys.getD i.toNat tNote.zero) = ((decide (cmpN (xs.getD k.toNat tNote.zero) (ys.getD i.toNat tNote.zero) = 0) && !decide (xs.getD k.toNat tNote.zero = ys.getD i.toNat tNote.zero)) || badB (xs.drop (k.toNat + 1)) (ys.getD i.toNat tNote.zero)) := any_step (p := fun x => decide (cmpN x (ys.getD i.toNat tNote.zero) = 0) && !decide (x = ys.getD i.toNat tNote.zero)) (l := xs) (by omega)
    have h2 : hitB (xs.drop k.toNat) (ys.getD i.toNat tNote.zero) = (decide (cmpN (xs.getD k.toNat tNote.zero) (ys.getD i.toNat tNote.zero) = 0) || hitB (xs.drop (k.toNat + 1)) (ys.getD i.toNat tNote.zero)) := any_step (p := fun x => decide (cmpN x (ys.getD i.toNat tNote.zero) = 0)) (l := xs) (by omega)
    have h3 := eqN_dec (xs.getD k.toNat tNote.zero) (ys.getD i.toNat tNote.zero)
    rw [show (k + 1).toNat = k.toNat + 1 by omega, h1, h2]
    simp only [h3]
    clear h1 h2 h3
    by_cases hc : cmpN (xs.getD k.toNat tNote.zero) (ys.getD i.toNat tNote.zero) = 0
    · by_cases he : xs.getD k.toNat tNote.zero = ys.getD i.toNat tNote.zero
      · simp only [hc, he, decide_true, Bool.not_true, Bool.and_false, Bool.false_or, Bool.true_or, Bool.or_true]
        repeat' first | apply And.intro | intro _
        all_goals first | omega | trivial | rfl | contradiction | assumption | exact hp.1.2.2 | exact hp.2.1 | exact hp.2.2 | (simp_all; done)
      · simp only [hc, he, decide_true, decide_false, Bool.not_false, Bool.and_true, Bool.true_or]
        repeat' first | apply And.intro | intro _
        all_goals first | omega | trivial | rfl | contradiction | assumption | exact hp.1.2.2 | exact hp.2.1 | exact hp.2.2 | (simp [Tree.ok, packAV, AV.same, AV.same.sameL, encV, encS, enc, inK, Nd.ok, List.headD_cons, List.cons_append, List.nil_append, List.append_nil, true_and, and_true, Bool.true_and, Bool.and_true, loop_next, weakBs_nil, weakBs_cons, weakB_self, weakB_row, weakB_int, weakL_nil, weakL_unk, weakL_int, weakL_bool, weakL_str, weakL_own, weakL_view, weakL_nilS, noRow_int, noRow_bool, own_inj, LTree.val, cond_true, cond_false, Prod.mk.injEq, List.cons.injEq, AV.int.injEq, AV.bool.injEq, AV.str.injEq, AV.agg.injEq]; done)
    · simp only [hc, decide_false, Bool.false_and, Bool.false_or]
      repeat' first | apply And.intro | intro _
      all_goals first | omega | trivial | rfl | contradiction | assumption | exact hp.1.2.2 | exact hp.2.1 | exact hp.2.2
  · rw [show k.toNat = xs.length by omega, List.drop_length]
    simp [Tree.ok, packAV, AV.same, AV.same.sameL, encV, encS, enc, inK, Nd.ok, List.headD_cons, List.cons_append, List.nil_append, List.append_nil, true_and, and_true, Bool.true_and, Bool.and_true, loop_next, weakBs_nil, weakBs_cons, weakB_self, weakB_row, weakB_int, weakL_nil, weakL_unk, weakL_int, weakL_bool, weakL_str, weakL_own, weakL_view, weakL_nilS, noRow_int, noRow_bool, own_inj, LTree.val, cond_true, cond_false, Prod.mk.injEq, List.cons.injEq, AV.int.injEq, AV.bool.injEq, AV.str.injEq, AV.agg.injEq, badB, hitB]
set_option maxHeartbeats 1000000 in
theorem loop_sMerge_0 : LoopSat Try.prog Try.f33.ntmps (loopAt Try.f33 0) ann_sMerge_0 := by
  refine loopSat_of (C := C_Sg_2) (L := (addL (firstId (loopAt Try.f33 1)) ann_sMerge_1 (addL (firstId (loopAt Try.f33 0)) ann_sMerge_0 noL))) (wr := false) mixedOk C_Sg_2_ok (loopsIn1 (b := loopAt Try.f33 1) (by kernel_rfl) (fun ann h => (Option.some.inj ((show (addL (firstId (loopAt Try.f33 1)) ann_sMerge_1 (addL (firstId (loopAt Try.f33 0)) ann_sMerge_0 noL)) (firstId (loopAt Try.f33 1)) = some ann_sMerge_1 from by kernel_rfl).symm.trans h)) ▸ loop_sMerge_1)) (fun d => match d.blk, d.vals with | [_, .box [.view _ ys], _], [_, _, .int _ i] => ((ys.length : Int) - i).toNat | _, _ => 0) fun d p t hG hp => ?_
  simp only [ann_sMerge_0] at hG
  split at hG
  rotate_left
  · simp at hG
  rename_i xs ys r out i
  simp only [Option.some.injEq, Prod.mk.injEq] at hG
  obtain ⟨rfl, rfl⟩ := hG
  have htree : exRound Try.prog C_Sg_2 false (addL (firstId (loopAt Try.f33 1)) ann_sMerge_1 (addL (firstId (loopAt Try.f33 0)) ann_sMerge_0 noL)) Try.f33.ntmps ann_sMerge_0 (loopAt Try.f33 0) ⟨[.ptr 2 0, .ptr 3 0, .ptr 4 0], [.box [.view tNote xs], .box [.view tNote ys], .box [.nilS]], [.int .i64 r, .own tNote out, .int .i64 i], []⟩ = .ite (decide (i < (↑ys.length : Int))) (.need ((((0 : Int) ≤ (0 : Int) ∧ (0 : Int) ≤ (↑xs.length : Int)) ∧ ((0 : Int) ≤ i ∧ i < (↑ys.length : Int)) ∧ xs.length ≤ (60 : Nat)) ∧ notesF xs = true ∧ notesF ys = true) (.ite (badB (List.drop (Int.toNat (0 : Int)) xs) (ys.getD i.toNat tNote.zero)) (.leaf (.ret, ⟨[.ptr 2 0, .ptr 3 0, .ptr 4 0], [.box [.view (tFrac.pair (tFrac.pair (I64.pair (I64.pair I64)))) (xs)], .box [.view (tFrac.pair (tFrac.pair (I64.pair (I64.pair I64)))) (ys)], .box [.nilS]], [.int .i64 ((4 : Int)), .own (tFrac.pair (tFrac.pair (I64.pair (I64.pair I64)))) (out), .int .i64 (i)], []⟩)) (.ite (!(false || hitB (List.drop (Int.toNat (0 : Int)) xs) (ys.getD i.toNat tNote.zero))) (.need ((0 : Int) ≤ i ∧ i < (↑ys.length : Int)) (.need (out.length + [(((getT tNote ys i).fst.fst, (getT tNote ys i).fst.snd), ((getT tNote ys i).snd.fst.fst, (getT tNote ys i).snd.fst.snd), (getT tNote ys i).snd.snd.fst, (getT tNote ys i).snd.snd.snd.fst, (getT tNote ys i).snd.snd.snd.snd)].length ≤ (16777216 : Nat)) (.need (inK IntKind.i64 (i + (1 : Int))) (.leaf (.normal, ⟨[.ptr 2 0, .ptr 3 0, .ptr 4 0], [.box [.view (tFrac.pair (tFrac.pair (I64.pair (I64.pair I64)))) (xs)], .box [.view (tFrac.pair (tFrac.pair (I64.pair (I64.pair I64)))) (ys)], .box [.nilS]], [.int .i64 (r), .own (tFrac.pair (tFrac.pair (I64.pair (I64.pair I64)))) (out ++ [(((getT tNote ys i).fst.fst, (getT tNote ys i).fst.snd), ((getT tNote ys i).snd.fst.fst, (getT tNote ys i).snd.fst.snd), (getT tNote ys i).snd.snd.fst, (getT tNote ys i).snd.snd.snd.fst, (getT tNote ys i).snd.snd.snd.snd)]), .int .i64 (i + (1 : Int))], []⟩))))) (.need (inK IntKind.i64 (i + (1 : Int))) (.leaf (.normal, ⟨[.ptr 2 0, .ptr 3 0, .ptr 4 0], [.box [.view (tFrac.pair (tFrac.pair (I64.pair (I64.pair I64)))) (xs)], .box [.view (tFrac.pair (tFrac.pair (I64.pair (I64.pair I64)))) (ys)], .box [.nilS]], [.int .i64 (r), .own (tFrac.pair (tFrac.pair (I64.pair (I64.pair I64)))) (out), .int .i64 (i + (1 : Int))], []⟩)))))) (.leaf ((.exit 0), ⟨[.ptr 2 0, .ptr 3 0, .ptr 4 0], [.box [.view (tFrac.pair (tFrac.pair (I64.pair (I64.pair I64)))) (xs)], .box [.view (tFrac.pair (tFrac.pair (I64.pair (I64.pair I64)))) (ys)], .box [.nilS]], [.int .i64 (r), .own (tFrac.pair (tFrac.pair (I64.pair (I64.pair I64)))) (out), .int .i64 (i)], []⟩)) := by kernel_rfl
  rw [htree]
  clear htree
  replace hp : ((0 ≤ i ∧ i ≤ (ys.length : Int)) ∧ ys.length ≤ 60 ∧ (out.length : Int) ≤ 60 + i ∧ xs.length ≤ 60) ∧ notesF xs = true ∧ notesF ys = true := hp
  simp only [Tree.ok, packAV, AV.same, AV.same.sameL, encV, encS, enc, inK, Nd.ok, List.headD_cons, List.cons_append, List.nil_append, List.append_nil, true_and, and_true, Bool.true_and, Bool.and_true, loop_next, weakBs_nil, weakBs_cons, weakB_self, weakB_row, weakB_int, weakL_nil, weakL_unk, weakL_int, weakL_bool, weakL_str, weakL_own, weakL_view, weakL_nilS, noRow_int, noRow_bool, own_inj, LTree.val, cond_true, cond_false, Prod.mk.injEq, List.cons.injEq, AV.int.injEq, AV.bool.injEq, AV.str.injEq, AV.agg.injEq, ann_sMerge_0, decide_eq_true_eq, decide_eq_false_iff_not, Bool.not_eq_true', Bool.not_eq_false', Int.toNat_zero, List.drop_zero, Bool.false_or]
  simp only [getT, etaN]
  refine ⟨fun ha => ?_, fun ha => ?_⟩
  · have h1 := outL_step xs ys i.toNat (by omega)
    have h2 := any_step (p := badB xs) (l := ys) (i := i.toNat) (by omega)
    have h3 := preL_bad xs ys i.toNat (by omega)
    have h4 := preL_step xs ys i.toNat (by omega)
    rw [show (i + 1).toNat = i.toNat + 1 by omega, h2]
    cases hb : badB xs (ys.getD i.toNat tNote.zero)
    · rw [h1, h4 hb]
      cases hh : hitB xs (ys.getD i.toNat tNote.zero)
      all_goals
        simp only [Bool.false_or, Bool.not_true, Bool.not_false, Bool.false_eq_true, if_true, if_false, List.nil_append, List.append_assoc, List.length_append, List.length_cons, List.length_nil]
        repeat' first | apply And.intro | intro _
        all_goals first | omega | trivial | rfl | contradiction | exact hp.1.2.1 | exact hp.1.2.2.2 | exact hp.2.1 | exact hp.2.2
    · rw [h3 hb]
      simp only [Bool.true_or, List.append_nil]
      repeat' first | apply And.intro | intro _
      all_goals first | omega | trivial | rfl | contradiction | exact hp.1.2.1 | exact hp.1.2.2.2 | exact hp.2.1 | exact hp.2.2 | (simp [Tree.ok, packAV, AV.same, AV.same.sameL, encV, encS, enc, inK, Nd.ok, List.headD_cons, List.cons_append, List.nil_append, List.append_nil, true_and, and_true, Bool.true_and, Bool.and_true, loop_next, weakBs_nil, weakBs_cons, weakB_self, weakB_row, weakB_int, weakL_nil, weakL_unk, weakL_int, weakL_bool, weakL_str, weakL_own, weakL_view, weakL_nilS, noRow_int, noRow_bool, own_inj, LTree.val, cond_true, cond_false, Prod.mk.injEq, List.cons.injEq, AV.int.injEq, AV.bool.injEq, AV.str.injEq, AV.agg.injEq]; done)
  · rw [show i.toNat = ys.length by omega, List.drop_length]
    simp [Tree.ok, packAV, AV.same, AV.same.sameL, encV, encS, enc, inK, Nd.ok, List.headD_cons, List.cons_append, List.nil_append, List.append_nil, true_and, and_true, Bool.true_and, Bool.and_true, loop_next, weakBs_nil, weakBs_cons, weakB_self, weakB_row, weakB_int, weakL_nil, weakL_unk, weakL_int, weakL_bool, weakL_str, weakL_own, weakL_view, weakL_nilS, noRow_int, noRow_bool, own_inj, LTree.val, cond_true, cond_false, Prod.mk.injEq, List.cons.injEq, AV.int.injEq, AV.bool.injEq, AV.str.injEq, AV.agg.injEq, outL]
theorem loops_sMerge : ∀ c, Try.f33.body = some c → LoopsOk Try.prog (addL (firstId (loopAt Try.f33 1)) ann_sMerge_1 (addL (firstId (loopAt Try.f33 0)) ann_sMerge_0 noL)) Try.f33.ntmps c := loopsN fun i hi ann h => by
  have hn : loopN Try.f33 = 2 := by kernel_rfl
  rw [hn] at hi
  exact match i, hi, h with
    | 0, _, h => (Option.some.inj ((show (addL (firstId (loopAt Try.f33 1)) ann_sMerge_1 (addL (firstId (loopAt Try.f33 0)) ann_sMerge_0 noL)) (firstId (loopAt Try.f33 0)) = some ann_sMerge_0 from by kernel_rfl).symm.trans h)) ▸ loop_sMerge_0
    | 1, _, h => (Option.some.inj ((show (addL (firstId (loopAt Try.f33 1)) ann_sMerge_1 (addL (firstId (loopAt Try.f33 0)) ann_sMerge_0 noL)) (firstId (loopAt Try.f33 1)) = some ann_sMerge_1 from by kernel_rfl).symm.trans h)) ▸ loop_sMerge_1
set_option maxHeartbeats 1000000 in
theorem sat_sMerge : Sat Try.prog 33 ct_sMerge := by
  refine sat_typed (C := C_Sg_2) (L := (addL (firstId (loopAt Try.f33 1)) ann_sMerge_1 (addL (firstId (loopAt Try.f33 0)) ann_sMerge_0 noL))) (wr := false) mixedOk Try.func33 C_Sg_2_ok (loops_sMerge) (fun _ => by first | rfl | (simp [ownsOf, ownsOf.ownsL, enc, encV, encS])) fun x hp => ?_
  obtain ⟨(xs : List tNote.den), (ys : List tNote.den), _⟩ := x
  replace hp : (xs.length : Int) ≤ 9223372036854775807 ∧ (ys.length : Int) ≤ 9223372036854775807 := hp
  have htree : exFunc Try.prog C_Sg_2 false (addL (firstId (loopAt Try.f33 1)) ann_sMerge_1 (addL (firstId (loopAt Try.f33 0)) ann_sMerge_0 noL)) Try.f33 (encA [.s qNote, .s qNote] (xs, ys, ())) = .need ((↑xs.length : Int) ≤ (9223372036854775807 : Int)) (.ite (!scoreF xs) (.leaf [.agg [.nilS], .int .i64 ((1 : Int))]) (.need ((↑ys.length : Int) ≤ (9223372036854775807 : Int)) (.ite (!scoreF ys) (.leaf [.agg [.nilS], .int .i64 ((1 : Int))]) (.need ((0 : Nat) + xs.length ≤ (16777216 : Nat)) (.need ((((0 : Int) ≤ (0 : Int) ∧ (0 : Int) ≤ (↑ys.length : Int)) ∧ ys.length ≤ (60 : Nat) ∧ (↑([] ++ xs).length : Int) ≤ (60 : Int) + (0 : Int) ∧ xs.length ≤ (60 : Nat)) ∧ notesF xs = true ∧ notesF ys = true) (.ite ((List.drop (Int.toNat (0 : Int)) ys).any (badB xs)) (.leaf [.agg [.nilS], .int .i64 ((4 : Int))]) (.ite (decide ((60 : Int) < (↑([] ++ xs ++ outL xs (List.drop (Int.toNat (0 : Int)) ys)).length : Int))) (.leaf [.agg [.nilS], .int .i64 ((5 : Int))]) (.need (([] ++ xs ++ outL xs (List.drop (Int.toNat (0 : Int)) ys)).length ≤ (1000 : Nat) ∧ AllOk goodN ([] ++ xs ++ outL xs (List.drop (Int.toNat (0 : Int)) ys))) (.leaf [.agg [.own (tFrac.pair (tFrac.pair (I64.pair (I64.pair I64)))) (srt ltN ([] ++ xs ++ outL xs (List.drop (Int.toNat (0 : Int)) ys)))], .int .i64 ((0 : Int))]))))))))) := by kernel_rfl
  refine (congrArg (Tree.ok _) htree).mpr ?_
  clear htree
  have hx := @scoreN xs
  have hy := @scoreN ys
  have ho : scoreF xs = true → scoreF ys = true → AllOk goodN (xs ++ newL xs ys) := fun h1 h2 => AllOk.app.2 ⟨notesOk (hx h1).2, fun z hz => notesOk (hy h2).2 z (List.mem_filter.1 hz).1⟩
  have hl : (newL xs ys).length ≤ ys.length := List.length_filter_le _ _
  have e : (xs ++ newL xs ys).length = xs.length + (newL xs ys).length := List.length_append
  have hml := @merge_law xs ys
  simp only [Tree.ok, packAV, AV.same, AV.same.sameL, encV, encS, enc, inK, Nd.ok, List.headD_cons, List.cons_append, List.nil_append, List.append_nil, true_and, and_true, Bool.true_and, Bool.and_true, mergeS, Int.toNat_zero, List.drop_zero, srt_len, List.nil_append, decide_eq_true_eq, decide_eq_false_iff_not]
  cases h0 : scoreF xs
  · simp; omega
  · cases h1 : scoreF ys
    · simp; omega
    · have ho := ho h0 h1
      have hx := hx h0
      have hy := hy h1
      obtain ⟨m1, m2⟩ := hml h0 h1
      rw [m1]
      cases h3 : ys.any (badB xs)
      · have m2 : outL xs ys = newL xs ys := m2 h3
        rw [m2]
        generalize xs ++ newL xs ys = zs at *
        by_cases h4 : 60 < (zs.length : Int)
        all_goals
          simp only [h4]
          simp
          repeat' first | apply And.intro | intro _
          all_goals first | omega | exact ho _ ‹_› | exact ho.srt _ ‹_› | exact hx.1 | exact hy.1 | exact hx.2 | exact hy.2 | trivial | (exfalso; omega)
      · simp
        repeat' first | apply And.intro | intro _
        all_goals first | omega | exact ho _ ‹_› | exact ho.srt _ ‹_› | exact hx.1 | exact hy.1 | exact hx.2 | exact hy.2 | trivial
def C_Sg_3 : FuncId → Option Ct := addC 33 ct_sMerge C_Sg_2
theorem C_Sg_3_ok : COk Try.prog C_Sg_3 := addC_ok C_Sg_2_ok sat_sMerge
def ct_lawMergeScores : Ct := ctOf [.s qNote, .s qNote] (fun ((xs : List tNote.den), (ys : List tNote.den), _) => .p ((xs.length : Int) ≤ 9223372036854775807 ∧ (ys.length : Int) ≤ 9223372036854775807)) (fun ((xs : List tNote.den), (ys : List tNote.den), _) => .bool true)
set_option maxHeartbeats 1000000 in
theorem sat_lawMergeScores : Sat Try.prog 7 ct_lawMergeScores := by
  refine sat_typed (C := C_Sg_3) (L := noL) (wr := false) mixedOk Try.func7 C_Sg_3_ok (loops0 (by kernel_rfl)) (fun _ => by first | rfl | (simp [ownsOf, ownsOf.ownsL, enc, encV, encS])) fun x hp => ?_
  obtain ⟨(xs : List tNote.den), (ys : List tNote.den), _⟩ := x
  replace hp : (xs.length : Int) ≤ 9223372036854775807 ∧ (ys.length : Int) ≤ 9223372036854775807 := hp
  have htree : exFunc Try.prog C_Sg_3 false noL Try.f7 (encA [.s qNote, .s qNote] (xs, ys, ())) = .need (((0 : Int) ≤ (1048576 : Int) ∧ (1048576 : Int) ≤ (1048576 : Int)) ∧ (↑xs.length : Int) ≤ (9223372036854775807 : Int)) (.ite (decide ((if (1048576 : Int) - (↑xs.length : Int) < (0 : Int) then (-1 : Int) else (1048576 : Int) - (↑xs.length : Int)) < (0 : Int))) (.leaf [.lit true]) (.need ((((0 : Int) ≤ if (1048576 : Int) - (↑xs.length : Int) < (0 : Int) then (-1 : Int) else (1048576 : Int) - (↑xs.length : Int)) ∧ (if (1048576 : Int) - (↑xs.length : Int) < (0 : Int) then (-1 : Int) else (1048576 : Int) - (↑xs.length : Int)) ≤ (1048576 : Int)) ∧ (↑ys.length : Int) ≤ (9223372036854775807 : Int)) (.ite (decide ((if (if (1048576 : Int) - (↑xs.length : Int) < (0 : Int) then (-1 : Int) else (1048576 : Int) - (↑xs.length : Int)) - (↑ys.length : Int) < (0 : Int) then (-1 : Int) else (if (1048576 : Int) - (↑xs.length : Int) < (0 : Int) then (-1 : Int) else (1048576 : Int) - (↑xs.length : Int)) - (↑ys.length : Int)) < (0 : Int))) (.leaf [.lit true]) (.need (xs.length ≤ (16777216 : Nat)) (.need (ys.length ≤ (16777216 : Nat)) (.need ((↑xs.length : Int) ≤ (9223372036854775807 : Int) ∧ (↑ys.length : Int) ≤ (9223372036854775807 : Int)) (.need (xs.length ≤ (16777216 : Nat)) (.need (ys.length ≤ (16777216 : Nat)) (.need ((↑xs.length : Int) ≤ (9223372036854775807 : Int) ∧ (↑ys.length : Int) ≤ (9223372036854775807 : Int)) (.need ((↑(mergeS xs ys).fst.length : Int) ≤ (9223372036854775807 : Int)) (.ite (!decide ((mergeS xs ys).fst = (mergeS xs ys).fst)) (.leaf [.lit false]) (.ite ((mergeS xs ys).snd != (mergeS xs ys).snd) (.leaf [.lit false]) (.need (xs.length ≤ (16777216 : Nat)) (.need ((↑xs.length : Int) ≤ (9223372036854775807 : Int)) (.ite (!decide (xs = xs)) (.leaf [.lit false]) (.need (ys.length ≤ (16777216 : Nat)) (.need ((↑ys.length : Int) ≤ (9223372036854775807 : Int)) (.ite (!decide (ys = ys)) (.leaf [.lit false]) (.need (xs.length ≤ (16777216 : Nat) ∧ (0 : Int) ≤ (1 : Int) ∧ (1 : Int) ≤ (1000000000000 : Int)) (.need (ys.length ≤ (16777216 : Nat) ∧ (0 : Int) ≤ (1 : Int) + (7 : Int) * (↑xs.length : Int) ∧ (1 : Int) + (7 : Int) * (↑xs.length : Int) ≤ (1000000000000 : Int)) (.ite (decide ((1 : Int) + (7 : Int) * (↑xs.length : Int) + (7 : Int) * (↑ys.length : Int) < (0 : Int))) (.leaf [.lit false]) (.need ((↑(mergeS xs ys).fst.length : Int) ≤ (9223372036854775807 : Int)) (.ite (!decide ((mergeS xs ys).fst = (mergeS xs ys).fst)) (.leaf [.lit false]) (.ite ((mergeS xs ys).snd != (mergeS xs ys).snd) (.leaf [.lit false]) (.need ((mergeS xs ys).fst.length ≤ (16777216 : Nat) ∧ (0 : Int) ≤ (1 : Int) ∧ (1 : Int) ≤ (1000000000000 : Int)) (.need ((rowMark mkNoteV (7 : Int) (mergeS xs ys).fst.length (1 : Int)).length ≤ (16777216 : Nat) ∧ (0 : Int) ≤ (1 : Int) ∧ (1 : Int) ≤ (1000000000000 : Int)) (.ite (decide (heldR mkNoteV (7 : Int) (rowMark mkNoteV (7 : Int) (mergeS xs ys).fst.length (1 : Int)) (1 : Int) < (0 : Int))) (.leaf [.lit false]) (.ite (heldR mkNoteV (7 : Int) (rowMark mkNoteV (7 : Int) (mergeS xs ys).fst.length (1 : Int)) (1 : Int) != (1 : Int) + (7 : Int) * (↑(mergeS xs ys).fst.length : Int)) (.leaf [.lit false]) (.need (xs.length ≤ (16777216 : Nat)) (.need (ys.length ≤ (16777216 : Nat)) (.need ((↑xs.length : Int) ≤ (9223372036854775807 : Int) ∧ (↑ys.length : Int) ≤ (9223372036854775807 : Int)) (.need ((↑(mergeS xs ys).fst.length : Int) ≤ (9223372036854775807 : Int)) (.ite (!decide ((mergeS xs ys).fst = (mergeS xs ys).fst)) (.leaf [.lit false]) (.ite ((mergeS xs ys).snd != (mergeS xs ys).snd) (.leaf [.lit false]) (.need ((rowMark mkNoteV (7 : Int) (mergeS xs ys).fst.length (1 : Int)).length ≤ (16777216 : Nat) ∧ (0 : Int) ≤ (1 : Int) ∧ (1 : Int) ≤ (1000000000000 : Int)) (.ite (decide (heldR mkNoteV (7 : Int) (rowMark mkNoteV (7 : Int) (mergeS xs ys).fst.length (1 : Int)) (1 : Int) < (0 : Int))) (.leaf [.lit false]) (.ite (heldR mkNoteV (7 : Int) (rowMark mkNoteV (7 : Int) (mergeS xs ys).fst.length (1 : Int)) (1 : Int) != (1 : Int) + (7 : Int) * (↑(mergeS xs ys).fst.length : Int)) (.leaf [.lit false]) (.leaf [.lit true])))))))))))))))))))))))))))))))))))))) := by kernel_rfl
  refine (congrArg (Tree.ok _) htree).mpr ?_
  clear htree
  have h1 := mergeS_len xs ys
  simp only [Tree.ok, packAV, AV.same, AV.same.sameL, encV, encS, enc, inK, Nd.ok, List.headD_cons, List.cons_append, List.nil_append, List.append_nil, true_and, and_true, Bool.true_and, Bool.and_true, heldR_mark3, rowMark_length]
  generalize mergeS xs ys = q at *
  repeat' first | apply And.intro | intro _
  all_goals first | omega | trivial | grind
def C_Sg_4 : FuncId → Option Ct := addC 7 ct_lawMergeScores C_Sg_3
theorem C_Sg_4_ok : COk Try.prog C_Sg_4 := addC_ok C_Sg_3_ok sat_lawMergeScores

def C_Sg : FuncId → Option Ct := C_Sg_4
theorem C_Sg_ok : COk Try.prog C_Sg := C_Sg_4_ok
end Go.Proofs.Ytljngogolpelaaa
