/- Contracts: the pitches of chords, of the program and the reference; the law on them. Conditions: as each says. -/
import Derived.Test.YtkeckmdmmbeaiaaDoorUe
import Derived.Test.YtkeckmdmmbeaiaaDoorUw
import Derived.Test.YtkeckmdmmbeaiaaDoorUm
import Derived.Test.YtkeckmdmmbeaiaaDoorXc
set_option linter.unusedSimpArgs false
set_option linter.unusedVariables false
namespace Go.Proofs.YtkeckmdmmbeaiaaDoor
open Go.RowKit Sx
set_option maxRecDepth 100000
set_option maxHeartbeats 1000000
def C_UgB : FuncId → Option Ct := addC 29 ct_iReadInterval (addC 28 ct_sReadInterval (addC 87 ct_SplitWords (addC 84 ct_l01Split (addC 86 ct_chordI C_Um))))
theorem C_UgB_ok : COk Tryd.prog C_UgB := addC_ok (addC_ok (addC_ok (addC_ok (addC_ok C_Um_ok sat_chordI) sat_l01Split) sat_SplitWords) sat_sReadInterval) sat_iReadInterval
def flatC : List (List UInt8) := chordL.flatMap fun p => [p.1, p.2]
theorem flatC_at {j : Nat} (h : j < 10) : flatC.getD (2 * j) [] = (chordL.getD j ([], [])).1 ∧ flatC.getD (2 * j + 1) [] = (chordL.getD j ([], [])).2 ∧ asT = asT := by
  have : ∀ j : Fin 10, flatC.getD (2 * j) [] = (chordL.getD j ([], [])).1 ∧ flatC.getD (2 * j + 1) [] = (chordL.getD j ([], [])).2 := by decide
  exact ⟨(this ⟨j, h⟩).1, (this ⟨j, h⟩).2, rfl⟩
theorem asT_at (s : List UInt8) {j : Nat} (h : j < 10) : asT s (chordL.drop j) = if (chordL.getD j ([], [])).1 = s then some (chordL.getD j ([], [])).2 else asT s (chordL.drop (j + 1)) := by
  have hl : j < chordL.length := h
  rw [List.drop_eq_getElem_cons hl, getD_lt _ _ _ hl, asT]
def ann_l16Chord_0 : LAnn := { sameS := [0, 4], modS := [2, 3, 5], sameH := [6], modH := [], base := 900000, nilE := [], nilB := [], G := fun
  | ⟨[.str s, .row 6], [.row .str xs], [.str r, .bool b, .int .i64 i], []⟩ => some (.p (xs = flatC ∧ (0 ≤ i ∧ i ≤ 20) ∧ i = 2 * (i / 2)), .ite (asT s (chordL.drop (i / 2).toNat)).isSome (.leaf .ret [.str ((asT s (chordL.drop (i / 2).toNat)).getD []), .bool true, .unk] []) (.leaf (.exit 0) [.str r, .bool b, .unk] []))
  | _ => none }
def ct_l16Chord : Ct := ctOf [.v .str] (fun _ => .tt) (fun ((s : List UInt8), _) => .tup [.str ((chordT s).getD []), .bool (chordT s).isSome])
set_option maxHeartbeats 1000000 in
theorem loop_l16Chord_0 : LoopSat Tryd.prog Tryd.f83.ntmps (loopAt Tryd.f83 0) ann_l16Chord_0 := by
  refine loopSat_of (C := C_UgB) (L := (addL (firstId (loopAt Tryd.f83 0)) ann_l16Chord_0 noL)) (wr := false) mixedOk C_UgB_ok (loopsIn0 (by kernel_rfl)) (fun d => match d.vals with | [_, _, .int _ i] => (20 - i).toNat | _ => 0) fun d p t hG hp => ?_
  simp only [ann_l16Chord_0] at hG
  split at hG
  rotate_left
  · simp at hG
  rename_i s xs r b i
  simp only [Option.some.injEq, Prod.mk.injEq] at hG
  obtain ⟨rfl, rfl⟩ := hG
  have htree : exRound Tryd.prog C_UgB false (addL (firstId (loopAt Tryd.f83 0)) ann_l16Chord_0 noL) Tryd.f83.ntmps ann_l16Chord_0 (loopAt Tryd.f83 0) ⟨[.str s, .row 6], [.row .str xs], [.str r, .bool b, .int .i64 i], []⟩ = .ite (decide (i < (↑xs.length : Int))) (.need ((0 : Int) ≤ i ∧ i < (↑xs.length : Int)) (.need (i.toNat < xs.length) (.ite (decide (xs.getD i.toNat Ty.str.zero = s)) (.need (inK IntKind.i64 (i + (1 : Int))) (.need ((0 : Int) ≤ i + (1 : Int) ∧ i + (1 : Int) < (↑xs.length : Int)) (.need ((i + (1 : Int)).toNat < xs.length) (.leaf (.ret, ⟨[.str (s), .row 6], [.row (Ty.str) (xs)], [.str (xs.getD (i + (1 : Int)).toNat Ty.str.zero), .bool (true), .int .i64 (i)], []⟩))))) (.need (inK IntKind.i64 (i + (2 : Int))) (.leaf (.normal, ⟨[.str (s), .row 6], [.row (Ty.str) (xs)], [.str (r), .bool (b), .int .i64 (i + (2 : Int))], []⟩)))))) (.leaf ((.exit 0), ⟨[.str (s), .row 6], [.row (Ty.str) (xs)], [.str (r), .bool (b), .int .i64 (i)], []⟩)) := by kernel_rfl
  rw [htree]
  clear htree
  replace hp : xs = flatC ∧ (0 ≤ i ∧ i ≤ 20) ∧ i = 2 * (i / 2) := hp
  obtain ⟨rfl, hi, h2⟩ := hp
  have hl : flatC.length = 20 := by decide
  simp only [Tree.ok, tyd_inj, packAV, AV.same, AV.same.sameL, encV, encS, enc, inK, Nd.ok, List.headD_cons, List.cons_append, List.nil_append, List.append_nil, true_and, and_true, Bool.true_and, Bool.and_true, loop_next, weakBs_nil, weakBs_cons, weakB_self, weakB_row, weakB_int, weakL_nil, weakL_unk, weakL_guess, isRow_own, isRow_unk, weakL_int, weakL_bool, weakL_str, weakL_own, weakL_view, weakL_nilS, noRow_int, noRow_bool, own_inj, LTree.val, cond_true, cond_false, Prod.mk.injEq, List.cons.injEq, AV.int.injEq, AV.bool.injEq, AV.str.injEq, AV.agg.injEq, ann_l16Chord_0, hl, decide_eq_true_eq, decide_eq_false_iff_not]
  refine ⟨fun ha => ?_, fun ha => ?_⟩
  · obtain ⟨j, rfl⟩ : ∃ j : Nat, i = 2 * (j : Int) := ⟨(i / 2).toNat, by omega⟩
    have hj : j < 10 := by omega
    have g := flatC_at hj
    have g1 : flatC.getD ((2 * (j : Int)).toNat) Ty.str.zero = (chordL.getD j ([], [])).1 := by rw [show (2 * (j : Int)).toNat = 2 * j by omega]; exact g.1
    have g2 : flatC.getD ((2 * (j : Int) + 1).toNat) Ty.str.zero = (chordL.getD j ([], [])).2 := by rw [show (2 * (j : Int) + 1).toNat = 2 * j + 1 by omega]; exact g.2.1
    rw [show (2 * (j : Int) / 2).toNat = j by omega, show ((2 * (j : Int) + 2) / 2).toNat = j + 1 by omega, asT_at s hj]
    simp only [g1, g2]
    generalize chordL.getD j ([], []) = e at *
    obtain ⟨k, v⟩ := e
    by_cases he : k = s
    · simp only [he, if_true]
      repeat' first | apply And.intro | intro _
      all_goals first | omega | trivial | rfl | contradiction | (simp [Tree.ok, tyd_inj, packAV, AV.same, AV.same.sameL, encV, encS, enc, inK, Nd.ok, List.headD_cons, List.cons_append, List.nil_append, List.append_nil, true_and, and_true, Bool.true_and, Bool.and_true, loop_next, weakBs_nil, weakBs_cons, weakB_self, weakB_row, weakB_int, weakL_nil, weakL_unk, weakL_guess, isRow_own, isRow_unk, weakL_int, weakL_bool, weakL_str, weakL_own, weakL_view, weakL_nilS, noRow_int, noRow_bool, own_inj, LTree.val, cond_true, cond_false, Prod.mk.injEq, List.cons.injEq, AV.int.injEq, AV.bool.injEq, AV.str.injEq, AV.agg.injEq]; done) | (simp_all [Tree.ok, tyd_inj, packAV, AV.same, AV.same.sameL, encV, encS, enc, inK, Nd.ok, List.headD_cons, List.cons_append, List.nil_append, List.append_nil, true_and, and_true, Bool.true_and, Bool.and_true, loop_next, weakBs_nil, weakBs_cons, weakB_self, weakB_row, weakB_int, weakL_nil, weakL_unk, weakL_guess, isRow_own, isRow_unk, weakL_int, weakL_bool, weakL_str, weakL_own, weakL_view, weakL_nilS, noRow_int, noRow_bool, own_inj, LTree.val, cond_true, cond_false, Prod.mk.injEq, List.cons.injEq, AV.int.injEq, AV.bool.injEq, AV.str.injEq, AV.agg.injEq]; done) | (trace_state; fail)
    · simp only [he, if_false]
      repeat' first | apply And.intro | intro _
      all_goals first | omega | trivial | rfl | contradiction | (simp [Tree.ok, tyd_inj, packAV, AV.same, AV.same.sameL, encV, encS, enc, inK, Nd.ok, List.headD_cons, List.cons_append, List.nil_append, List.append_nil, true_and, and_true, Bool.true_and, Bool.and_true, loop_next, weakBs_nil, weakBs_cons, weakB_self, weakB_row, weakB_int, weakL_nil, weakL_unk, weakL_guess, isRow_own, isRow_unk, weakL_int, weakL_bool, weakL_str, weakL_own, weakL_view, weakL_nilS, noRow_int, noRow_bool, own_inj, LTree.val, cond_true, cond_false, Prod.mk.injEq, List.cons.injEq, AV.int.injEq, AV.bool.injEq, AV.str.injEq, AV.agg.injEq]; done) | (simp_all [Tree.ok, tyd_inj, packAV, AV.same, AV.same.sameL, encV, encS, enc, inK, Nd.ok, List.headD_cons, List.cons_append, List.nil_append, List.append_nil, true_and, and_true, Bool.true_and, Bool.and_true, loop_next, weakBs_nil, weakBs_cons, weakB_self, weakB_row, weakB_int, weakL_nil, weakL_unk, weakL_guess, isRow_own, isRow_unk, weakL_int, weakL_bool, weakL_str, weakL_own, weakL_view, weakL_nilS, noRow_int, noRow_bool, own_inj, LTree.val, cond_true, cond_false, Prod.mk.injEq, List.cons.injEq, AV.int.injEq, AV.bool.injEq, AV.str.injEq, AV.agg.injEq]; done) | (trace_state; fail)
  · rw [show (i / 2).toNat = 10 by omega]
    simp [Tree.ok, tyd_inj, packAV, AV.same, AV.same.sameL, encV, encS, enc, inK, Nd.ok, List.headD_cons, List.cons_append, List.nil_append, List.append_nil, true_and, and_true, Bool.true_and, Bool.and_true, loop_next, weakBs_nil, weakBs_cons, weakB_self, weakB_row, weakB_int, weakL_nil, weakL_unk, weakL_guess, isRow_own, isRow_unk, weakL_int, weakL_bool, weakL_str, weakL_own, weakL_view, weakL_nilS, noRow_int, noRow_bool, own_inj, LTree.val, cond_true, cond_false, Prod.mk.injEq, List.cons.injEq, AV.int.injEq, AV.bool.injEq, AV.str.injEq, AV.agg.injEq, show chordL.drop 10 = [] from rfl, asT]
theorem loops_l16Chord : ∀ c, Tryd.f83.body = some c → LoopsOk Tryd.prog (addL (firstId (loopAt Tryd.f83 0)) ann_l16Chord_0 noL) Tryd.f83.ntmps c := loopsN fun i hi ann h => by
  have hn : loopN Tryd.f83 = 1 := by kernel_rfl
  rw [hn] at hi
  exact match i, hi, h with
    | 0, _, h => (Option.some.inj ((show (addL (firstId (loopAt Tryd.f83 0)) ann_l16Chord_0 noL) (firstId (loopAt Tryd.f83 0)) = some ann_l16Chord_0 from by kernel_rfl).symm.trans h)) ▸ loop_l16Chord_0
set_option maxHeartbeats 1000000 in
theorem sat_l16Chord : Sat Tryd.prog 83 ct_l16Chord := by
  refine sat_typed (C := C_UgB) (L := (addL (firstId (loopAt Tryd.f83 0)) ann_l16Chord_0 noL)) (wr := false) mixedOk Tryd.func83 C_UgB_ok (loops_l16Chord) (fun _ => by first | rfl | (simp [ownsOf, ownsOf.ownsL, enc, encV, encS])) fun x hp => ?_
  obtain ⟨(s : List UInt8), _⟩ := x
  clear hp
  have htree : exFunc Tryd.prog C_UgB false (addL (firstId (loopAt Tryd.f83 0)) ann_l16Chord_0 noL) Tryd.f83 (encA [.v .str] (s, ())) = .need ([#[(109 : UInt8), (97 : UInt8), (106 : UInt8)].toList, #[(77 : UInt8), (51 : UInt8), (32 : UInt8), (80 : UInt8), (53 : UInt8)].toList, #[(109 : UInt8), (105 : UInt8), (110 : UInt8)].toList, #[(109 : UInt8), (51 : UInt8), (32 : UInt8), (80 : UInt8), (53 : UInt8)].toList, #[(100 : UInt8), (105 : UInt8), (109 : UInt8)].toList, #[(109 : UInt8), (51 : UInt8), (32 : UInt8), (100 : UInt8), (53 : UInt8)].toList, #[(97 : UInt8), (117 : UInt8), (103 : UInt8)].toList, #[(77 : UInt8), (51 : UInt8), (32 : UInt8), (65 : UInt8), (53 : UInt8)].toList, #[(115 : UInt8), (117 : UInt8), (115 : UInt8), (52 : UInt8)].toList, #[(80 : UInt8), (52 : UInt8), (32 : UInt8), (80 : UInt8), (53 : UInt8)].toList, #[(100 : UInt8), (111 : UInt8), (109 : UInt8), (55 : UInt8)].toList, #[(77 : UInt8), (51 : UInt8), (32 : UInt8), (80 : UInt8), (53 : UInt8), (32 : UInt8), (109 : UInt8), (55 : UInt8)].toList, #[(109 : UInt8), (97 : UInt8), (106 : UInt8), (55 : UInt8)].toList, #[(77 : UInt8), (51 : UInt8), (32 : UInt8), (80 : UInt8), (53 : UInt8), (32 : UInt8), (77 : UInt8), (55 : UInt8)].toList, #[(109 : UInt8), (105 : UInt8), (110 : UInt8), (55 : UInt8)].toList, #[(109 : UInt8), (51 : UInt8), (32 : UInt8), (80 : UInt8), (53 : UInt8), (32 : UInt8), (109 : UInt8), (55 : UInt8)].toList, #[(100 : UInt8), (105 : UInt8), (109 : UInt8), (55 : UInt8)].toList, #[(109 : UInt8), (51 : UInt8), (32 : UInt8), (100 : UInt8), (53 : UInt8), (32 : UInt8), (100 : UInt8), (55 : UInt8)].toList, #[(115 : UInt8), (105 : UInt8), (120 : UInt8)].toList, #[(77 : UInt8), (51 : UInt8), (32 : UInt8), (80 : UInt8), (53 : UInt8), (32 : UInt8), (77 : UInt8), (54 : UInt8)].toList] = flatC ∧ ((0 : Int) ≤ (0 : Int) ∧ (0 : Int) ≤ (20 : Int)) ∧ (0 : Int) = (2 : Int) * (0 / 2 : Int)) (.ite ((asT s (List.drop (0 / 2 : Int).toNat chordL)).isSome) (.leaf [.str ((asT s (List.drop (0 / 2 : Int).toNat chordL)).getD []), .bool (true)]) (.leaf [.str (([] : List UInt8)), .lit false])) := by kernel_rfl
  refine (congrArg (Tree.ok _) htree).mpr ?_
  clear htree
  have hf : ∀ L, L = flatC → L = flatC := fun _ h => h
  have hc : asT s (chordL.drop 0) = chordT s := rfl
  simp only [Tree.ok, tyd_inj, packAV, AV.same, AV.same.sameL, encV, encS, enc, inK, Nd.ok, List.headD_cons, List.cons_append, List.nil_append, List.append_nil, true_and, and_true, Bool.true_and, Bool.and_true, show ((0 : Int) / 2).toNat = 0 from rfl, hc]
  cases h : chordT s with
  | some t =>
    simp only [Option.isSome_some, Option.getD_some]
    repeat' first | apply And.intro | intro _
    all_goals first | omega | trivial | rfl | contradiction | (simp_all [Tree.ok, tyd_inj, packAV, AV.same, AV.same.sameL, encV, encS, enc, inK, Nd.ok, List.headD_cons, List.cons_append, List.nil_append, List.append_nil, true_and, and_true, Bool.true_and, Bool.and_true]; done) | (trace_state; fail)
  | none =>
    simp only [Option.isSome_none, Option.getD_none]
    repeat' first | apply And.intro | intro _
    all_goals first | omega | trivial | rfl | contradiction | (simp_all [Tree.ok, tyd_inj, packAV, AV.same, AV.same.sameL, encV, encS, enc, inK, Nd.ok, List.headD_cons, List.cons_append, List.nil_append, List.append_nil, true_and, and_true, Bool.true_and, Bool.and_true]; done) | (trace_state; fail)
def C_Ug_1 : FuncId → Option Ct := addC 83 ct_l16Chord C_UgB
theorem C_Ug_1_ok : COk Tryd.prog C_Ug_1 := addC_ok C_UgB_ok sat_l16Chord
/-- The pitches at the intervals that these words name; none where one does not exist. -/
def goC (p : Int × Int × Int) : List (List UInt8) → Option (List (Int × Int × Int))
  | [] => some []
  | w :: ws => if (moveF p.1 p.2.1 p.2.2 (orZ (outI w 29 0)).1 (orZ (outI w 29 0)).2).2 = 0 then (goC p ws).map fun l => (moveF p.1 p.2.1 p.2.2 (orZ (outI w 29 0)).1 (orZ (outI w 29 0)).2).1 :: l else none
def chordF (p : Int × Int × Int) (s : List UInt8) : List (Int × Int × Int) × Int :=
  if okP p.1 p.2.1 p.2.2 = true then (match chordT s with
    | none => ([], 3)
    | some t => match goC p (splitC 32 t) with
      | some l => (p :: l, 0)
      | none => ([], 2)) else ([], 1)
theorem inI_ok {s : List UInt8} {n : Int} (hn : 0 ≤ n ∧ n ≤ 28) : ∀ (k : Nat) (d : Int) (x : Int × Int), -3 ≤ d → d + k ≤ 4 → inI s n k d = some x → okI x.1 x.2 = true
  | 0, _, _, _, _, h => by simp [inI] at h
  | k + 1, d, x, h1, h2, h => by
    have ho := okI_near hn (d := d) ⟨h1, by omega⟩
    rw [inI] at h
    split at h
    · rename_i y hy
      obtain rfl : y = x := by simpa using h
      unfold hitI at hy
      split at hy
      · simp only [Option.some.injEq] at hy; rw [← hy]; exact ho
      · split at hy
        · simp only [Option.some.injEq] at hy; rw [← hy]; exact okI_neg ho
        · simp at hy
    · exact inI_ok hn k (d + 1) x (by omega) (by omega) h
theorem orZ_ok (w : List UInt8) : okI (orZ (outI w 29 0)).1 (orZ (outI w 29 0)).2 = true := by
  cases h : outI w 29 0 with
  | some x =>
    obtain ⟨m, h1, h2, h3⟩ := outI_some 29 0 x h
    exact inI_ok (by omega) 7 (-3) x (by omega) (by omega) h3
  | none => decide
theorem moveF_cd {p : Int × Int × Int} (h : okP p.1 p.2.1 p.2.2 = true) (w : List UInt8) : (moveF p.1 p.2.1 p.2.2 (orZ (outI w 29 0)).1 (orZ (outI w 29 0)).2).2 = 0 ∨ (moveF p.1 p.2.1 p.2.2 (orZ (outI w 29 0)).1 (orZ (outI w 29 0)).2).2 = 2 := by
  unfold moveF
  rw [if_pos ⟨h, orZ_ok w⟩]
  split <;> simp
theorem goC_at (p : Int × Int × Int) (ws : List (List UInt8)) (i : Nat) (h : i < ws.length) : goC p (ws.drop i) = if (moveF p.1 p.2.1 p.2.2 (orZ (outI (ws.getD i []) 29 0)).1 (orZ (outI (ws.getD i []) 29 0)).2).2 = 0 then (goC p (ws.drop (i + 1))).map fun l => (moveF p.1 p.2.1 p.2.2 (orZ (outI (ws.getD i []) 29 0)).1 (orZ (outI (ws.getD i []) 29 0)).2).1 :: l else none := by
  rw [List.drop_eq_getElem_cons h, getD_lt _ _ _ h, goC]
theorem goC_len (p : Int × Int × Int) : ∀ (ws : List (List UInt8)) (l : List (Int × Int × Int)), goC p ws = some l → l.length = ws.length
  | [], l, h => by simp only [goC, Option.some.injEq] at h; subst h; rfl
  | w :: ws, l, h => by
    rw [goC] at h
    split at h
    · obtain ⟨m, h1, rfl⟩ := Option.map_eq_some_iff.1 h
      simp [goC_len p ws m h1]
    · simp at h
theorem chord_words {s t : List UInt8} (h : chordT s = some t) : wordsF t = splitC 32 t ∧ t.length ≤ 8 ∧ (splitC 32 t).length ≤ 3 := by
  have hm : ∀ (L : List (List UInt8 × List UInt8)), asT s L = some t → ∃ p ∈ L, p.2 = t := fun L => by
    induction L with
    | nil => intro h; simp [asT] at h
    | cons p r ih =>
      intro h
      rw [asT] at h
      split at h
      · exact ⟨p, List.mem_cons_self, by simpa using h⟩
      · obtain ⟨q, h1, h2⟩ := ih h
        exact ⟨q, List.mem_cons_of_mem _ h1, h2⟩
  obtain ⟨p, hp, rfl⟩ := hm _ h
  have : ∀ p ∈ chordL, wordsF p.2 = splitC 32 p.2 ∧ p.2.length ≤ 8 ∧ (splitC 32 p.2).length ≤ 3 := by decide
  exact this p hp
def ann_iChordPitches_0 : LAnn := { sameS := [2, 28, 29], modS := [4, 5, 8, 30], sameH := [2, 28], modH := [], base := 900000, nilE := [], nilB := [], G := fun
  | ⟨[.ptr 2 0, .row 28, .int .i64 n], [.box [.int .i64 a, .int .i64 b, .int .i64 c], .row .str ws], [.nilS, .int .i64 cd, .own (.pair (.int .i64) (.pair (.int .i64) (.int .i64))) out, .int .i64 i], []⟩ => some (.p (n = (ws.length : Int) ∧ (0 ≤ i ∧ i ≤ n) ∧ n ≤ 100 ∧ okP a b c = true ∧ (out.length : Int) ≤ i + 1), .ite (goC (a, b, c) (ws.drop i.toNat)).isSome (.leaf (.exit 0) [.nilS, .int .i64 cd, .own tPitch (out ++ (goC (a, b, c) (ws.drop i.toNat)).getD []), .unk] []) (.leaf .ret [.nilS, .int .i64 2, .guess True, .unk] []))
  | _ => none }
def ct_iChordPitches : Ct := ctOf [.s tPitch, .v .str] (fun _ => .tt) (fun (((a : Int), (b : Int), (c : Int)), (s : List UInt8), _) => .tup [.own tPitch (chordF (a, b, c) s).1, .int .i64 (chordF (a, b, c) s).2])
set_option maxHeartbeats 1000000 in
theorem loop_iChordPitches_0 : LoopSat Tryd.prog Tryd.f32.ntmps (loopAt Tryd.f32 0) ann_iChordPitches_0 := by
  refine loopSat_of (C := C_Ug_1) (L := (addL (firstId (loopAt Tryd.f32 0)) ann_iChordPitches_0 noL)) (wr := false) mixedOk C_Ug_1_ok (loopsIn0 (by kernel_rfl)) (fun d => match d.same, d.vals with | [_, _, .int _ n], [_, _, _, .int _ i] => (n - i).toNat | _, _ => 0) fun d p t hG hp => ?_
  simp only [ann_iChordPitches_0] at hG
  split at hG
  rotate_left
  · simp at hG
  rename_i n a b c ws cd out i
  simp only [Option.some.injEq, Prod.mk.injEq] at hG
  obtain ⟨rfl, rfl⟩ := hG
  have htree : exRound Tryd.prog C_Ug_1 false (addL (firstId (loopAt Tryd.f32 0)) ann_iChordPitches_0 noL) Tryd.f32.ntmps ann_iChordPitches_0 (loopAt Tryd.f32 0) ⟨[.ptr 2 0, .row 28, .int .i64 n], [.box [.int .i64 a, .int .i64 b, .int .i64 c], .row .str ws], [.nilS, .int .i64 cd, .own tPitch out, .int .i64 i], []⟩ = .ite (decide (i < n)) (.need ((0 : Int) ≤ i ∧ i < (↑ws.length : Int)) (.need (i.toNat < ws.length) (.ite ((moveF a b c (orZ (outI (ws.getD i.toNat Ty.str.zero) (29 : Nat) (0 : Int))).fst (orZ (outI (ws.getD i.toNat Ty.str.zero) (29 : Nat) (0 : Int))).snd).snd != (0 : Int)) (.leaf (.ret, ⟨[.ptr 2 0, .row 28, .int .i64 (n)], [.box [.int .i64 (a), .int .i64 (b), .int .i64 (c)], .row (Ty.str) (ws)], [.nilS, .int .i64 ((moveF a b c (orZ (outI (ws.getD i.toNat Ty.str.zero) (29 : Nat) (0 : Int))).fst (orZ (outI (ws.getD i.toNat Ty.str.zero) (29 : Nat) (0 : Int))).snd).snd), .own (I64.pair (I64.pair I64)) (out), .int .i64 (i)], []⟩)) (.need (out.length + [((moveF a b c (orZ (outI (ws.getD i.toNat Ty.str.zero) (29 : Nat) (0 : Int))).fst (orZ (outI (ws.getD i.toNat Ty.str.zero) (29 : Nat) (0 : Int))).snd).fst.fst, (moveF a b c (orZ (outI (ws.getD i.toNat Ty.str.zero) (29 : Nat) (0 : Int))).fst (orZ (outI (ws.getD i.toNat Ty.str.zero) (29 : Nat) (0 : Int))).snd).fst.snd.fst, (moveF a b c (orZ (outI (ws.getD i.toNat Ty.str.zero) (29 : Nat) (0 : Int))).fst (orZ (outI (ws.getD i.toNat Ty.str.zero) (29 : Nat) (0 : Int))).snd).fst.snd.snd)].length ≤ (16777216 : Nat)) (.need (inK IntKind.i64 (i + (1 : Int))) (.leaf (.normal, ⟨[.ptr 2 0, .row 28, .int .i64 (n)], [.box [.int .i64 (a), .int .i64 (b), .int .i64 (c)], .row (Ty.str) (ws)], [.nilS, .int .i64 (cd), .own (I64.pair (I64.pair I64)) (out ++ [((moveF a b c (orZ (outI (ws.getD i.toNat Ty.str.zero) (29 : Nat) (0 : Int))).fst (orZ (outI (ws.getD i.toNat Ty.str.zero) (29 : Nat) (0 : Int))).snd).fst.fst, (moveF a b c (orZ (outI (ws.getD i.toNat Ty.str.zero) (29 : Nat) (0 : Int))).fst (orZ (outI (ws.getD i.toNat Ty.str.zero) (29 : Nat) (0 : Int))).snd).fst.snd.fst, (moveF a b c (orZ (outI (ws.getD i.toNat Ty.str.zero) (29 : Nat) (0 : Int))).fst (orZ (outI (ws.getD i.toNat Ty.str.zero) (29 : Nat) (0 : Int))).snd).fst.snd.snd)]), .int .i64 (i + (1 : Int))], []⟩))))))) (.leaf ((.exit 0), ⟨[.ptr 2 0, .row 28, .int .i64 (n)], [.box [.int .i64 (a), .int .i64 (b), .int .i64 (c)], .row (Ty.str) (ws)], [.nilS, .int .i64 (cd), .own (I64.pair (I64.pair I64)) (out), .int .i64 (i)], []⟩)) := by kernel_rfl
  rw [htree]
  clear htree
  replace hp : n = (ws.length : Int) ∧ (0 ≤ i ∧ i ≤ n) ∧ n ≤ 100 ∧ okP a b c = true ∧ (out.length : Int) ≤ i + 1 := hp
  obtain ⟨rfl, hi, hn, hok, ho⟩ := hp
  have hz : ∀ k : Nat, ws.getD k Ty.str.zero = ws.getD k [] := fun _ => rfl
  simp only [Tree.ok, tyd_inj, packAV, AV.same, AV.same.sameL, encV, encS, enc, inK, Nd.ok, List.headD_cons, List.cons_append, List.nil_append, List.append_nil, true_and, and_true, Bool.true_and, Bool.and_true, loop_next, weakBs_nil, weakBs_cons, weakB_self, weakB_row, weakB_int, weakL_nil, weakL_unk, weakL_guess, isRow_own, isRow_unk, weakL_int, weakL_bool, weakL_str, weakL_own, weakL_view, weakL_nilS, noRow_int, noRow_bool, own_inj, LTree.val, cond_true, cond_false, Prod.mk.injEq, List.cons.injEq, AV.int.injEq, AV.bool.injEq, AV.str.injEq, AV.agg.injEq, ann_iChordPitches_0, hz, decide_eq_true_eq, decide_eq_false_iff_not, bne_iff_ne, ne_eq, bne_eq_false_iff_eq]
  refine ⟨fun ha => ?_, fun ha => ?_⟩
  · have hcd := moveF_cd (p := (a, b, c)) hok (ws.getD i.toNat [])
    have hg := goC_at (a, b, c) ws i.toNat (by omega)
    simp only at hcd hg
    rw [hg, show (i + 1).toNat = i.toNat + 1 by omega]
    generalize moveF a b c (orZ (outI (ws.getD i.toNat []) 29 0)).1 (orZ (outI (ws.getD i.toNat []) 29 0)).2 = m at *
    obtain ⟨⟨m1, m2, m3⟩, mc⟩ := m
    simp only at hcd ⊢
    by_cases h0 : mc = 0
    · simp only [h0, if_true, not_true_eq_false, false_implies, true_implies, true_and, and_true, List.length_append, List.length_cons, List.length_nil]
      cases goC (a, b, c) (ws.drop (i.toNat + 1)) with
      | some l =>
        simp only [Option.map_some, Option.isSome_some, Option.getD_some, List.append_assoc, List.singleton_append]
        repeat' first | apply And.intro | intro _
        all_goals first | omega | exact hok | trivial | rfl | contradiction | (simp [Tree.ok, tyd_inj, packAV, AV.same, AV.same.sameL, encV, encS, enc, inK, Nd.ok, List.headD_cons, List.cons_append, List.nil_append, List.append_nil, true_and, and_true, Bool.true_and, Bool.and_true, loop_next, weakBs_nil, weakBs_cons, weakB_self, weakB_row, weakB_int, weakL_nil, weakL_unk, weakL_guess, isRow_own, isRow_unk, weakL_int, weakL_bool, weakL_str, weakL_own, weakL_view, weakL_nilS, noRow_int, noRow_bool, own_inj, LTree.val, cond_true, cond_false, Prod.mk.injEq, List.cons.injEq, AV.int.injEq, AV.bool.injEq, AV.str.injEq, AV.agg.injEq]; done) | (simp_all [Tree.ok, tyd_inj, packAV, AV.same, AV.same.sameL, encV, encS, enc, inK, Nd.ok, List.headD_cons, List.cons_append, List.nil_append, List.append_nil, true_and, and_true, Bool.true_and, Bool.and_true, loop_next, weakBs_nil, weakBs_cons, weakB_self, weakB_row, weakB_int, weakL_nil, weakL_unk, weakL_guess, isRow_own, isRow_unk, weakL_int, weakL_bool, weakL_str, weakL_own, weakL_view, weakL_nilS, noRow_int, noRow_bool, own_inj, LTree.val, cond_true, cond_false, Prod.mk.injEq, List.cons.injEq, AV.int.injEq, AV.bool.injEq, AV.str.injEq, AV.agg.injEq]; done) | (trace_state; fail)
      | none =>
        simp only [Option.map_none, Option.isSome_none]
        repeat' first | apply And.intro | intro _
        all_goals first | omega | exact hok | trivial | rfl | contradiction | (simp [Tree.ok, tyd_inj, packAV, AV.same, AV.same.sameL, encV, encS, enc, inK, Nd.ok, List.headD_cons, List.cons_append, List.nil_append, List.append_nil, true_and, and_true, Bool.true_and, Bool.and_true, loop_next, weakBs_nil, weakBs_cons, weakB_self, weakB_row, weakB_int, weakL_nil, weakL_unk, weakL_guess, isRow_own, isRow_unk, weakL_int, weakL_bool, weakL_str, weakL_own, weakL_view, weakL_nilS, noRow_int, noRow_bool, own_inj, LTree.val, cond_true, cond_false, Prod.mk.injEq, List.cons.injEq, AV.int.injEq, AV.bool.injEq, AV.str.injEq, AV.agg.injEq]; done) | (simp_all [Tree.ok, tyd_inj, packAV, AV.same, AV.same.sameL, encV, encS, enc, inK, Nd.ok, List.headD_cons, List.cons_append, List.nil_append, List.append_nil, true_and, and_true, Bool.true_and, Bool.and_true, loop_next, weakBs_nil, weakBs_cons, weakB_self, weakB_row, weakB_int, weakL_nil, weakL_unk, weakL_guess, isRow_own, isRow_unk, weakL_int, weakL_bool, weakL_str, weakL_own, weakL_view, weakL_nilS, noRow_int, noRow_bool, own_inj, LTree.val, cond_true, cond_false, Prod.mk.injEq, List.cons.injEq, AV.int.injEq, AV.bool.injEq, AV.str.injEq, AV.agg.injEq]; done) | (trace_state; fail)
    · have h2 : mc = 2 := by omega
      simp only [h0, h2, if_false, not_false_eq_true, false_implies, true_implies, true_and, and_true, Option.isSome_none]
      repeat' first | apply And.intro | intro _
      all_goals first | omega | exact hok | trivial | rfl | contradiction | (simp [Tree.ok, tyd_inj, packAV, AV.same, AV.same.sameL, encV, encS, enc, inK, Nd.ok, List.headD_cons, List.cons_append, List.nil_append, List.append_nil, true_and, and_true, Bool.true_and, Bool.and_true, loop_next, weakBs_nil, weakBs_cons, weakB_self, weakB_row, weakB_int, weakL_nil, weakL_unk, weakL_guess, isRow_own, isRow_unk, weakL_int, weakL_bool, weakL_str, weakL_own, weakL_view, weakL_nilS, noRow_int, noRow_bool, own_inj, LTree.val, cond_true, cond_false, Prod.mk.injEq, List.cons.injEq, AV.int.injEq, AV.bool.injEq, AV.str.injEq, AV.agg.injEq]; done) | (simp_all [Tree.ok, tyd_inj, packAV, AV.same, AV.same.sameL, encV, encS, enc, inK, Nd.ok, List.headD_cons, List.cons_append, List.nil_append, List.append_nil, true_and, and_true, Bool.true_and, Bool.and_true, loop_next, weakBs_nil, weakBs_cons, weakB_self, weakB_row, weakB_int, weakL_nil, weakL_unk, weakL_guess, isRow_own, isRow_unk, weakL_int, weakL_bool, weakL_str, weakL_own, weakL_view, weakL_nilS, noRow_int, noRow_bool, own_inj, LTree.val, cond_true, cond_false, Prod.mk.injEq, List.cons.injEq, AV.int.injEq, AV.bool.injEq, AV.str.injEq, AV.agg.injEq]; done) | (trace_state; fail)
  · rw [List.drop_eq_nil_of_le (by omega)]
    simp [Tree.ok, tyd_inj, packAV, AV.same, AV.same.sameL, encV, encS, enc, inK, Nd.ok, List.headD_cons, List.cons_append, List.nil_append, List.append_nil, true_and, and_true, Bool.true_and, Bool.and_true, loop_next, weakBs_nil, weakBs_cons, weakB_self, weakB_row, weakB_int, weakL_nil, weakL_unk, weakL_guess, isRow_own, isRow_unk, weakL_int, weakL_bool, weakL_str, weakL_own, weakL_view, weakL_nilS, noRow_int, noRow_bool, own_inj, LTree.val, cond_true, cond_false, Prod.mk.injEq, List.cons.injEq, AV.int.injEq, AV.bool.injEq, AV.str.injEq, AV.agg.injEq, goC]
theorem loops_iChordPitches : ∀ c, Tryd.f32.body = some c → LoopsOk Tryd.prog (addL (firstId (loopAt Tryd.f32 0)) ann_iChordPitches_0 noL) Tryd.f32.ntmps c := loopsN fun i hi ann h => by
  have hn : loopN Tryd.f32 = 1 := by kernel_rfl
  rw [hn] at hi
  exact match i, hi, h with
    | 0, _, h => (Option.some.inj ((show (addL (firstId (loopAt Tryd.f32 0)) ann_iChordPitches_0 noL) (firstId (loopAt Tryd.f32 0)) = some ann_iChordPitches_0 from by kernel_rfl).symm.trans h)) ▸ loop_iChordPitches_0
set_option maxHeartbeats 1000000 in
theorem sat_iChordPitches : Sat Tryd.prog 32 ct_iChordPitches := by
  refine sat_typed (C := C_Ug_1) (L := (addL (firstId (loopAt Tryd.f32 0)) ann_iChordPitches_0 noL)) (wr := false) mixedOk Tryd.func32 C_Ug_1_ok (loops_iChordPitches) (fun _ => by first | rfl | (simp [ownsOf, ownsOf.ownsL, enc, encV, encS])) fun x hp => ?_
  obtain ⟨⟨(a : Int), (b : Int), (c : Int)⟩, (s : List UInt8), _⟩ := x
  clear hp
  have htree : exFunc Tryd.prog C_Ug_1 false (addL (firstId (loopAt Tryd.f32 0)) ann_iChordPitches_0 noL) Tryd.f32 (encA [.s tPitch, .v .str] ((a, b, c), s, ())) = .ite (!okP a b c) (.leaf [.nilS, .int .i64 ((1 : Int))]) (.ite (!(chordT s).isSome) (.leaf [.nilS, .int .i64 ((3 : Int))]) (.need (((chordT s).getD []).length ≤ (2000000 : Nat)) (.need ((↑(wordsF ((chordT s).getD [])).length : Int) = (↑(wordsF ((chordT s).getD [])).length : Int) ∧ ((0 : Int) ≤ (0 : Int) ∧ (0 : Int) ≤ (↑(wordsF ((chordT s).getD [])).length : Int)) ∧ (↑(wordsF ((chordT s).getD [])).length : Int) ≤ (100 : Int) ∧ okP a b c = true ∧ (↑[(a, b, c)].length : Int) ≤ (0 : Int) + (1 : Int)) (.ite ((goC (a, b, c) (List.drop (Int.toNat (0 : Int)) (wordsF ((chordT s).getD [])))).isSome) (.leaf [.own (I64.pair (I64.pair I64)) ([(a, b, c)] ++ (goC (a, b, c) (List.drop (Int.toNat (0 : Int)) (wordsF ((chordT s).getD [])))).getD []), .int .i64 ((0 : Int))]) (.leaf [.nilS, .int .i64 ((2 : Int))]))))) := by kernel_rfl
  refine (congrArg (Tree.ok _) htree).mpr ?_
  clear htree
  have hc : ∀ t, chordT s = some t → wordsF t = splitC 32 t ∧ t.length ≤ 8 ∧ (splitC 32 t).length ≤ 3 := fun t h => chord_words h
  have e32 : UInt8.ofNat (Int.toNat 32) = 32 := rfl
  simp only [Tree.ok, tyd_inj, packAV, AV.same, AV.same.sameL, encV, encS, enc, inK, Nd.ok, List.headD_cons, List.cons_append, List.nil_append, List.append_nil, true_and, and_true, Bool.true_and, Bool.and_true, chordF, e32, Int.toNat_zero, List.drop_zero]
  cases hk : okP a b c
  · simp
  cases h : chordT s with
  | none =>
    simp [Tree.ok, tyd_inj, packAV, AV.same, AV.same.sameL, encV, encS, enc, inK, Nd.ok, List.headD_cons, List.cons_append, List.nil_append, List.append_nil, true_and, and_true, Bool.true_and, Bool.and_true]
  | some t =>
    obtain ⟨h1, h2, h3⟩ := hc t h
    simp only [Option.getD_some, Option.isSome_some, h1, if_true, Bool.not_true, Bool.false_eq_true, false_implies, true_implies, true_and, and_true]
    cases hg : goC (a, b, c) (splitC 32 t) with
    | some l =>
      simp only [Option.isSome_some, Option.getD_some, List.length_cons, List.length_nil, List.singleton_append]
      repeat' first | apply And.intro | intro _
      all_goals first | omega | trivial | rfl | contradiction | (simp [Tree.ok, tyd_inj, packAV, AV.same, AV.same.sameL, encV, encS, enc, inK, Nd.ok, List.headD_cons, List.cons_append, List.nil_append, List.append_nil, true_and, and_true, Bool.true_and, Bool.and_true]; done) | (simp_all [Tree.ok, tyd_inj, packAV, AV.same, AV.same.sameL, encV, encS, enc, inK, Nd.ok, List.headD_cons, List.cons_append, List.nil_append, List.append_nil, true_and, and_true, Bool.true_and, Bool.and_true]; done) | (trace_state; fail)
    | none =>
      simp only [Option.isSome_none, List.length_cons, List.length_nil]
      repeat' first | apply And.intro | intro _
      all_goals first | omega | trivial | rfl | contradiction | (simp [Tree.ok, tyd_inj, packAV, AV.same, AV.same.sameL, encV, encS, enc, inK, Nd.ok, List.headD_cons, List.cons_append, List.nil_append, List.append_nil, true_and, and_true, Bool.true_and, Bool.and_true]; done) | (simp_all [Tree.ok, tyd_inj, packAV, AV.same, AV.same.sameL, encV, encS, enc, inK, Nd.ok, List.headD_cons, List.cons_append, List.nil_append, List.append_nil, true_and, and_true, Bool.true_and, Bool.and_true]; done) | (trace_state; fail)
def C_Ug_2 : FuncId → Option Ct := addC 32 ct_iChordPitches C_Ug_1
theorem C_Ug_2_ok : COk Tryd.prog C_Ug_2 := addC_ok C_Ug_1_ok sat_iChordPitches
def ann_sChordPitches_0 : LAnn := { sameS := [2, 9], modS := [4, 5, 8, 10], sameH := [2, 28], modH := [], base := 900000, nilE := [], nilB := [], G := fun
  | ⟨[.ptr 2 0, .row 28], [.box [.int .i64 a, .int .i64 b, .int .i64 c], .row .str ws], [.nilS, .int .i64 cd, .own (.pair (.int .i64) (.pair (.int .i64) (.int .i64))) out, .int .i64 i], []⟩ => some (.p ((0 ≤ i ∧ i ≤ (ws.length : Int)) ∧ ws.length ≤ 100 ∧ okP a b c = true ∧ (out.length : Int) ≤ i + 1), .ite (goC (a, b, c) (ws.drop i.toNat)).isSome (.leaf (.exit 0) [.nilS, .int .i64 cd, .own tPitch (out ++ (goC (a, b, c) (ws.drop i.toNat)).getD []), .unk] []) (.leaf .ret [.nilS, .int .i64 2, .guess True, .unk] []))
  | _ => none }
def ct_sChordPitches : Ct := ctOf [.s tPitch, .v .str] (fun _ => .tt) (fun (((a : Int), (b : Int), (c : Int)), (s : List UInt8), _) => .tup [.own tPitch (chordF (a, b, c) s).1, .int .i64 (chordF (a, b, c) s).2])
set_option maxHeartbeats 1000000 in
theorem loop_sChordPitches_0 : LoopSat Tryd.prog Tryd.f31.ntmps (loopAt Tryd.f31 0) ann_sChordPitches_0 := by
  refine loopSat_of (C := C_Ug_2) (L := (addL (firstId (loopAt Tryd.f31 0)) ann_sChordPitches_0 noL)) (wr := false) mixedOk C_Ug_2_ok (loopsIn0 (by kernel_rfl)) (fun d => match d.blk, d.vals with | [_, .row _ xs], [_, _, _, .int _ i] => ((xs.length : Int) - i).toNat | _, _ => 0) fun d p t hG hp => ?_
  simp only [ann_sChordPitches_0] at hG
  split at hG
  rotate_left
  · simp at hG
  rename_i a b c ws cd out i
  simp only [Option.some.injEq, Prod.mk.injEq] at hG
  obtain ⟨rfl, rfl⟩ := hG
  have htree : exRound Tryd.prog C_Ug_2 false (addL (firstId (loopAt Tryd.f31 0)) ann_sChordPitches_0 noL) Tryd.f31.ntmps ann_sChordPitches_0 (loopAt Tryd.f31 0) ⟨[.ptr 2 0, .row 28], [.box [.int .i64 a, .int .i64 b, .int .i64 c], .row .str ws], [.nilS, .int .i64 cd, .own tPitch out, .int .i64 i], []⟩ = .ite (decide (i < (↑ws.length : Int))) (.need ((0 : Int) ≤ i ∧ i < (↑ws.length : Int)) (.need (i.toNat < ws.length) (.ite ((moveF a b c (orZ (outI (ws.getD i.toNat Ty.str.zero) (29 : Nat) (0 : Int))).fst (orZ (outI (ws.getD i.toNat Ty.str.zero) (29 : Nat) (0 : Int))).snd).snd != (0 : Int)) (.leaf (.ret, ⟨[.ptr 2 0, .row 28], [.box [.int .i64 (a), .int .i64 (b), .int .i64 (c)], .row (Ty.str) (ws)], [.nilS, .int .i64 ((2 : Int)), .own (I64.pair (I64.pair I64)) (out), .int .i64 (i)], []⟩)) (.need (out.length + [((moveF a b c (orZ (outI (ws.getD i.toNat Ty.str.zero) (29 : Nat) (0 : Int))).fst (orZ (outI (ws.getD i.toNat Ty.str.zero) (29 : Nat) (0 : Int))).snd).fst.fst, (moveF a b c (orZ (outI (ws.getD i.toNat Ty.str.zero) (29 : Nat) (0 : Int))).fst (orZ (outI (ws.getD i.toNat Ty.str.zero) (29 : Nat) (0 : Int))).snd).fst.snd.fst, (moveF a b c (orZ (outI (ws.getD i.toNat Ty.str.zero) (29 : Nat) (0 : Int))).fst (orZ (outI (ws.getD i.toNat Ty.str.zero) (29 : Nat) (0 : Int))).snd).fst.snd.snd)].length ≤ (16777216 : Nat)) (.need (inK IntKind.i64 (i + (1 : Int))) (.leaf (.normal, ⟨[.ptr 2 0, .row 28], [.box [.int .i64 (a), .int .i64 (b), .int .i64 (c)], .row (Ty.str) (ws)], [.nilS, .int .i64 (cd), .own (I64.pair (I64.pair I64)) (out ++ [((moveF a b c (orZ (outI (ws.getD i.toNat Ty.str.zero) (29 : Nat) (0 : Int))).fst (orZ (outI (ws.getD i.toNat Ty.str.zero) (29 : Nat) (0 : Int))).snd).fst.fst, (moveF a b c (orZ (outI (ws.getD i.toNat Ty.str.zero) (29 : Nat) (0 : Int))).fst (orZ (outI (ws.getD i.toNat Ty.str.zero) (29 : Nat) (0 : Int))).snd).fst.snd.fst, (moveF a b c (orZ (outI (ws.getD i.toNat Ty.str.zero) (29 : Nat) (0 : Int))).fst (orZ (outI (ws.getD i.toNat Ty.str.zero) (29 : Nat) (0 : Int))).snd).fst.snd.snd)]), .int .i64 (i + (1 : Int))], []⟩))))))) (.leaf ((.exit 0), ⟨[.ptr 2 0, .row 28], [.box [.int .i64 (a), .int .i64 (b), .int .i64 (c)], .row (Ty.str) (ws)], [.nilS, .int .i64 (cd), .own (I64.pair (I64.pair I64)) (out), .int .i64 (i)], []⟩)) := by kernel_rfl
  rw [htree]
  clear htree
  replace hp : (0 ≤ i ∧ i ≤ (ws.length : Int)) ∧ ws.length ≤ 100 ∧ okP a b c = true ∧ (out.length : Int) ≤ i + 1 := hp
  obtain ⟨hi, hn, hok, ho⟩ := hp
  have hz : ∀ k : Nat, ws.getD k Ty.str.zero = ws.getD k [] := fun _ => rfl
  simp only [Tree.ok, tyd_inj, packAV, AV.same, AV.same.sameL, encV, encS, enc, inK, Nd.ok, List.headD_cons, List.cons_append, List.nil_append, List.append_nil, true_and, and_true, Bool.true_and, Bool.and_true, loop_next, weakBs_nil, weakBs_cons, weakB_self, weakB_row, weakB_int, weakL_nil, weakL_unk, weakL_guess, isRow_own, isRow_unk, weakL_int, weakL_bool, weakL_str, weakL_own, weakL_view, weakL_nilS, noRow_int, noRow_bool, own_inj, LTree.val, cond_true, cond_false, Prod.mk.injEq, List.cons.injEq, AV.int.injEq, AV.bool.injEq, AV.str.injEq, AV.agg.injEq, ann_sChordPitches_0, hz, decide_eq_true_eq, decide_eq_false_iff_not, bne_iff_ne, ne_eq, bne_eq_false_iff_eq]
  refine ⟨fun ha => ?_, fun ha => ?_⟩
  · have hcd := moveF_cd (p := (a, b, c)) hok (ws.getD i.toNat [])
    have hg := goC_at (a, b, c) ws i.toNat (by omega)
    simp only at hcd hg
    rw [hg, show (i + 1).toNat = i.toNat + 1 by omega]
    generalize moveF a b c (orZ (outI (ws.getD i.toNat []) 29 0)).1 (orZ (outI (ws.getD i.toNat []) 29 0)).2 = m at *
    obtain ⟨⟨m1, m2, m3⟩, mc⟩ := m
    simp only at hcd ⊢
    by_cases h0 : mc = 0
    · simp only [h0, if_true, not_true_eq_false, false_implies, true_implies, true_and, and_true, List.length_append, List.length_cons, List.length_nil]
      cases goC (a, b, c) (ws.drop (i.toNat + 1)) with
      | some l =>
        simp only [Option.map_some, Option.isSome_some, Option.getD_some, List.append_assoc, List.singleton_append]
        repeat' first | apply And.intro | intro _
        all_goals first | omega | exact hok | trivial | rfl | contradiction | (simp [Tree.ok, tyd_inj, packAV, AV.same, AV.same.sameL, encV, encS, enc, inK, Nd.ok, List.headD_cons, List.cons_append, List.nil_append, List.append_nil, true_and, and_true, Bool.true_and, Bool.and_true, loop_next, weakBs_nil, weakBs_cons, weakB_self, weakB_row, weakB_int, weakL_nil, weakL_unk, weakL_guess, isRow_own, isRow_unk, weakL_int, weakL_bool, weakL_str, weakL_own, weakL_view, weakL_nilS, noRow_int, noRow_bool, own_inj, LTree.val, cond_true, cond_false, Prod.mk.injEq, List.cons.injEq, AV.int.injEq, AV.bool.injEq, AV.str.injEq, AV.agg.injEq]; done) | (simp_all [Tree.ok, tyd_inj, packAV, AV.same, AV.same.sameL, encV, encS, enc, inK, Nd.ok, List.headD_cons, List.cons_append, List.nil_append, List.append_nil, true_and, and_true, Bool.true_and, Bool.and_true, loop_next, weakBs_nil, weakBs_cons, weakB_self, weakB_row, weakB_int, weakL_nil, weakL_unk, weakL_guess, isRow_own, isRow_unk, weakL_int, weakL_bool, weakL_str, weakL_own, weakL_view, weakL_nilS, noRow_int, noRow_bool, own_inj, LTree.val, cond_true, cond_false, Prod.mk.injEq, List.cons.injEq, AV.int.injEq, AV.bool.injEq, AV.str.injEq, AV.agg.injEq]; done) | (trace_state; fail)
      | none =>
        simp only [Option.map_none, Option.isSome_none]
        repeat' first | apply And.intro | intro _
        all_goals first | omega | exact hok | trivial | rfl | contradiction | (simp [Tree.ok, tyd_inj, packAV, AV.same, AV.same.sameL, encV, encS, enc, inK, Nd.ok, List.headD_cons, List.cons_append, List.nil_append, List.append_nil, true_and, and_true, Bool.true_and, Bool.and_true, loop_next, weakBs_nil, weakBs_cons, weakB_self, weakB_row, weakB_int, weakL_nil, weakL_unk, weakL_guess, isRow_own, isRow_unk, weakL_int, weakL_bool, weakL_str, weakL_own, weakL_view, weakL_nilS, noRow_int, noRow_bool, own_inj, LTree.val, cond_true, cond_false, Prod.mk.injEq, List.cons.injEq, AV.int.injEq, AV.bool.injEq, AV.str.injEq, AV.agg.injEq]; done) | (simp_all [Tree.ok, tyd_inj, packAV, AV.same, AV.same.sameL, encV, encS, enc, inK, Nd.ok, List.headD_cons, List.cons_append, List.nil_append, List.append_nil, true_and, and_true, Bool.true_and, Bool.and_true, loop_next, weakBs_nil, weakBs_cons, weakB_self, weakB_row, weakB_int, weakL_nil, weakL_unk, weakL_guess, isRow_own, isRow_unk, weakL_int, weakL_bool, weakL_str, weakL_own, weakL_view, weakL_nilS, noRow_int, noRow_bool, own_inj, LTree.val, cond_true, cond_false, Prod.mk.injEq, List.cons.injEq, AV.int.injEq, AV.bool.injEq, AV.str.injEq, AV.agg.injEq]; done) | (trace_state; fail)
    · have h2 : mc = 2 := by omega
      simp only [h0, h2, if_false, not_false_eq_true, false_implies, true_implies, true_and, and_true, Option.isSome_none]
      repeat' first | apply And.intro | intro _
      all_goals first | omega | exact hok | trivial | rfl | contradiction | (simp [Tree.ok, tyd_inj, packAV, AV.same, AV.same.sameL, encV, encS, enc, inK, Nd.ok, List.headD_cons, List.cons_append, List.nil_append, List.append_nil, true_and, and_true, Bool.true_and, Bool.and_true, loop_next, weakBs_nil, weakBs_cons, weakB_self, weakB_row, weakB_int, weakL_nil, weakL_unk, weakL_guess, isRow_own, isRow_unk, weakL_int, weakL_bool, weakL_str, weakL_own, weakL_view, weakL_nilS, noRow_int, noRow_bool, own_inj, LTree.val, cond_true, cond_false, Prod.mk.injEq, List.cons.injEq, AV.int.injEq, AV.bool.injEq, AV.str.injEq, AV.agg.injEq]; done) | (simp_all [Tree.ok, tyd_inj, packAV, AV.same, AV.same.sameL, encV, encS, enc, inK, Nd.ok, List.headD_cons, List.cons_append, List.nil_append, List.append_nil, true_and, and_true, Bool.true_and, Bool.and_true, loop_next, weakBs_nil, weakBs_cons, weakB_self, weakB_row, weakB_int, weakL_nil, weakL_unk, weakL_guess, isRow_own, isRow_unk, weakL_int, weakL_bool, weakL_str, weakL_own, weakL_view, weakL_nilS, noRow_int, noRow_bool, own_inj, LTree.val, cond_true, cond_false, Prod.mk.injEq, List.cons.injEq, AV.int.injEq, AV.bool.injEq, AV.str.injEq, AV.agg.injEq]; done) | (trace_state; fail)
  · rw [List.drop_eq_nil_of_le (by omega)]
    simp [Tree.ok, tyd_inj, packAV, AV.same, AV.same.sameL, encV, encS, enc, inK, Nd.ok, List.headD_cons, List.cons_append, List.nil_append, List.append_nil, true_and, and_true, Bool.true_and, Bool.and_true, loop_next, weakBs_nil, weakBs_cons, weakB_self, weakB_row, weakB_int, weakL_nil, weakL_unk, weakL_guess, isRow_own, isRow_unk, weakL_int, weakL_bool, weakL_str, weakL_own, weakL_view, weakL_nilS, noRow_int, noRow_bool, own_inj, LTree.val, cond_true, cond_false, Prod.mk.injEq, List.cons.injEq, AV.int.injEq, AV.bool.injEq, AV.str.injEq, AV.agg.injEq, goC]
theorem loops_sChordPitches : ∀ c, Tryd.f31.body = some c → LoopsOk Tryd.prog (addL (firstId (loopAt Tryd.f31 0)) ann_sChordPitches_0 noL) Tryd.f31.ntmps c := loopsN fun i hi ann h => by
  have hn : loopN Tryd.f31 = 1 := by kernel_rfl
  rw [hn] at hi
  exact match i, hi, h with
    | 0, _, h => (Option.some.inj ((show (addL (firstId (loopAt Tryd.f31 0)) ann_sChordPitches_0 noL) (firstId (loopAt Tryd.f31 0)) = some ann_sChordPitches_0 from by kernel_rfl).symm.trans h)) ▸ loop_sChordPitches_0
set_option maxHeartbeats 1000000 in
theorem sat_sChordPitches : Sat Tryd.prog 31 ct_sChordPitches := by
  refine sat_typed (C := C_Ug_2) (L := (addL (firstId (loopAt Tryd.f31 0)) ann_sChordPitches_0 noL)) (wr := false) mixedOk Tryd.func31 C_Ug_2_ok (loops_sChordPitches) (fun _ => by first | rfl | (simp [ownsOf, ownsOf.ownsL, enc, encV, encS])) fun x hp => ?_
  obtain ⟨⟨(a : Int), (b : Int), (c : Int)⟩, (s : List UInt8), _⟩ := x
  clear hp
  have htree : exFunc Tryd.prog C_Ug_2 false (addL (firstId (loopAt Tryd.f31 0)) ann_sChordPitches_0 noL) Tryd.f31 (encA [.s tPitch, .v .str] ((a, b, c), s, ())) = .ite (!okP a b c) (.leaf [.nilS, .int .i64 ((1 : Int))]) (.ite (!(chordT s).isSome) (.leaf [.nilS, .int .i64 ((3 : Int))]) (.need (((chordT s).getD []).length ≤ (2000000 : Nat) ∧ (0 : Int) ≤ (32 : Int) ∧ (32 : Int) ≤ (255 : Int)) (.need (((0 : Int) ≤ (0 : Int) ∧ (0 : Int) ≤ (↑(splitC (UInt8.ofNat (Int.toNat (32 : Int))) ((chordT s).getD [])).length : Int)) ∧ (splitC (UInt8.ofNat (Int.toNat (32 : Int))) ((chordT s).getD [])).length ≤ (100 : Nat) ∧ okP a b c = true ∧ (↑[(a, b, c)].length : Int) ≤ (0 : Int) + (1 : Int)) (.ite ((goC (a, b, c) (List.drop (Int.toNat (0 : Int)) (splitC (UInt8.ofNat (Int.toNat (32 : Int))) ((chordT s).getD [])))).isSome) (.leaf [.own (I64.pair (I64.pair I64)) ([(a, b, c)] ++ (goC (a, b, c) (List.drop (Int.toNat (0 : Int)) (splitC (UInt8.ofNat (Int.toNat (32 : Int))) ((chordT s).getD [])))).getD []), .int .i64 ((0 : Int))]) (.leaf [.nilS, .int .i64 ((2 : Int))]))))) := by kernel_rfl
  refine (congrArg (Tree.ok _) htree).mpr ?_
  clear htree
  have hc : ∀ t, chordT s = some t → wordsF t = splitC 32 t ∧ t.length ≤ 8 ∧ (splitC 32 t).length ≤ 3 := fun t h => chord_words h
  have e32 : UInt8.ofNat (Int.toNat 32) = 32 := rfl
  simp only [Tree.ok, tyd_inj, packAV, AV.same, AV.same.sameL, encV, encS, enc, inK, Nd.ok, List.headD_cons, List.cons_append, List.nil_append, List.append_nil, true_and, and_true, Bool.true_and, Bool.and_true, chordF, e32, Int.toNat_zero, List.drop_zero]
  cases hk : okP a b c
  · simp
  cases h : chordT s with
  | none =>
    simp [Tree.ok, tyd_inj, packAV, AV.same, AV.same.sameL, encV, encS, enc, inK, Nd.ok, List.headD_cons, List.cons_append, List.nil_append, List.append_nil, true_and, and_true, Bool.true_and, Bool.and_true]
  | some t =>
    obtain ⟨h1, h2, h3⟩ := hc t h
    simp only [Option.getD_some, Option.isSome_some, h1, if_true, Bool.not_true, Bool.false_eq_true, false_implies, true_implies, true_and, and_true]
    cases hg : goC (a, b, c) (splitC 32 t) with
    | some l =>
      simp only [Option.isSome_some, Option.getD_some, List.length_cons, List.length_nil, List.singleton_append]
      repeat' first | apply And.intro | intro _
      all_goals first | omega | trivial | rfl | contradiction | (simp [Tree.ok, tyd_inj, packAV, AV.same, AV.same.sameL, encV, encS, enc, inK, Nd.ok, List.headD_cons, List.cons_append, List.nil_append, List.append_nil, true_and, and_true, Bool.true_and, Bool.and_true]; done) | (simp_all [Tree.ok, tyd_inj, packAV, AV.same, AV.same.sameL, encV, encS, enc, inK, Nd.ok, List.headD_cons, List.cons_append, List.nil_append, List.append_nil, true_and, and_true, Bool.true_and, Bool.and_true]; done) | (trace_state; fail)
    | none =>
      simp only [Option.isSome_none, List.length_cons, List.length_nil]
      repeat' first | apply And.intro | intro _
      all_goals first | omega | trivial | rfl | contradiction | (simp [Tree.ok, tyd_inj, packAV, AV.same, AV.same.sameL, encV, encS, enc, inK, Nd.ok, List.headD_cons, List.cons_append, List.nil_append, List.append_nil, true_and, and_true, Bool.true_and, Bool.and_true]; done) | (simp_all [Tree.ok, tyd_inj, packAV, AV.same, AV.same.sameL, encV, encS, enc, inK, Nd.ok, List.headD_cons, List.cons_append, List.nil_append, List.append_nil, true_and, and_true, Bool.true_and, Bool.and_true]; done) | (trace_state; fail)
def C_Ug_3 : FuncId → Option Ct := addC 31 ct_sChordPitches C_Ug_2
theorem C_Ug_3_ok : COk Tryd.prog C_Ug_3 := addC_ok C_Ug_2_ok sat_sChordPitches
theorem chordF_len (p : Int × Int × Int) (s : List UInt8) : (chordF p s).1.length ≤ 4 := by
  unfold chordF
  split
  · split
    · simp
    · rename_i t ht
      have h3 := (chord_words ht).2.2
      split
      · rename_i l hl
        have := goC_len p _ l hl
        simp only [List.length_cons]; omega
      · simp
  · simp
def ct_lawChordPitches : Ct := ctOf [.s tPitch, .v .str] (fun _ => .tt) (fun (((a : Int), (b : Int), (c : Int)), (s : List UInt8), _) => .bool true)
set_option maxHeartbeats 1000000 in
theorem sat_lawChordPitches : Sat Tryd.prog 8 ct_lawChordPitches := by
  refine sat_typed (C := C_Ug_3) (L := noL) (wr := false) mixedOk Tryd.func8 C_Ug_3_ok (loops0 (by kernel_rfl)) (fun _ => by first | rfl | (simp [ownsOf, ownsOf.ownsL, enc, encV, encS])) fun x hp => ?_
  obtain ⟨⟨(a : Int), (b : Int), (c : Int)⟩, (s : List UInt8), _⟩ := x
  clear hp
  have htree : exFunc Tryd.prog C_Ug_3 false noL Tryd.f8 (encA [.s tPitch, .v .str] ((a, b, c), s, ())) = .ite (decide ((1048576 : Int) < (↑s.length : Int))) (.leaf [.lit true]) (.need ((↑(chordF (a, b, c) s).fst.length : Int) ≤ (9223372036854775807 : Int)) (.ite (!decide ((chordF (a, b, c) s).fst = (chordF (a, b, c) s).fst)) (.leaf [.lit false]) (.ite ((chordF (a, b, c) s).snd != (chordF (a, b, c) s).snd) (.leaf [.lit false]) (.need ((chordF (a, b, c) s).fst.length ≤ (16777216 : Nat) ∧ (0 : Int) ≤ (1 : Int) ∧ (1 : Int) ≤ (1000000000000 : Int)) (.need ((rowMark mkPitchV (3 : Int) (chordF (a, b, c) s).fst.length (1 : Int)).length ≤ (16777216 : Nat) ∧ (0 : Int) ≤ (1 : Int) ∧ (1 : Int) ≤ (1000000000000 : Int)) (.ite (decide (heldR mkPitchV (3 : Int) (rowMark mkPitchV (3 : Int) (chordF (a, b, c) s).fst.length (1 : Int)) (1 : Int) < (0 : Int))) (.leaf [.lit false]) (.ite (heldR mkPitchV (3 : Int) (rowMark mkPitchV (3 : Int) (chordF (a, b, c) s).fst.length (1 : Int)) (1 : Int) != (1 : Int) + (3 : Int) * (↑(chordF (a, b, c) s).fst.length : Int)) (.leaf [.lit false]) (.need ((↑(chordF (a, b, c) s).fst.length : Int) ≤ (9223372036854775807 : Int)) (.ite (!decide ((chordF (a, b, c) s).fst = (chordF (a, b, c) s).fst)) (.leaf [.lit false]) (.ite ((chordF (a, b, c) s).snd != (chordF (a, b, c) s).snd) (.leaf [.lit false]) (.need ((rowMark mkPitchV (3 : Int) (chordF (a, b, c) s).fst.length (1 : Int)).length ≤ (16777216 : Nat) ∧ (0 : Int) ≤ (1 : Int) ∧ (1 : Int) ≤ (1000000000000 : Int)) (.ite (decide (heldR mkPitchV (3 : Int) (rowMark mkPitchV (3 : Int) (chordF (a, b, c) s).fst.length (1 : Int)) (1 : Int) < (0 : Int))) (.leaf [.lit false]) (.ite (heldR mkPitchV (3 : Int) (rowMark mkPitchV (3 : Int) (chordF (a, b, c) s).fst.length (1 : Int)) (1 : Int) != (1 : Int) + (3 : Int) * (↑(chordF (a, b, c) s).fst.length : Int)) (.leaf [.lit false]) (.leaf [.lit true])))))))))))))) := by kernel_rfl
  refine (congrArg (Tree.ok _) htree).mpr ?_
  clear htree
  have h1 := chordF_len (a, b, c) s
  simp only [Tree.ok, tyd_inj, packAV, AV.same, AV.same.sameL, encV, encS, enc, inK, Nd.ok, List.headD_cons, List.cons_append, List.nil_append, List.append_nil, true_and, and_true, Bool.true_and, Bool.and_true, heldR_mark, rowMark_length]
  generalize chordF (a, b, c) s = q at *
  repeat' first | apply And.intro | intro _
  all_goals first | omega | trivial | grind
def C_Ug_4 : FuncId → Option Ct := addC 8 ct_lawChordPitches C_Ug_3
theorem C_Ug_4_ok : COk Tryd.prog C_Ug_4 := addC_ok C_Ug_3_ok sat_lawChordPitches

def C_Ug : FuncId → Option Ct := C_Ug_4
theorem C_Ug_ok : COk Tryd.prog C_Ug := C_Ug_4_ok
end Go.Proofs.YtkeckmdmmbeaiaaDoor
