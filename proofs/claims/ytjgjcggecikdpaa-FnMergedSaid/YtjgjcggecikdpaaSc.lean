/- Contracts: notes sorted into scores, of the program and the reference; scores marked. Conditions: as each says. -/
import Derived.Test.YtjgjcggecikdpaaSb
set_option linter.unusedSimpArgs false
set_option linter.unusedVariables false
namespace Go.Proofs.Ytjgjcggecikdpaa
open Go.RowKit Sx
set_option maxRecDepth 100000
set_option maxHeartbeats 1000000
def twinF (xs : List tNote.den) : Nat → Nat → Bool
  | 0, _ => false
  | n + 1, i => decide (cmpN (xs.getD (i - 1) tNote.zero) (xs.getD i tNote.zero) = 0) || twinF xs n (i + 1)
theorem twinF_go (xs : List tNote.den) (i : Nat) (h : i < xs.length) : twinF xs (xs.length - i) i = (decide (cmpN (xs.getD (i - 1) tNote.zero) (xs.getD i tNote.zero) = 0) || twinF xs (xs.length - (i + 1)) (i + 1)) := by
  rw [show xs.length - i = (xs.length - (i + 1)) + 1 by omega]; rfl
def twinB (xs : List tNote.den) : Bool := twinF xs (xs.length - 1) 1
def makeS (xs : List tNote.den) : List tNote.den × Int := if notesF xs = true then (if twinB (srt ltN xs) = true then ([], 4) else (srt ltN xs, 0)) else ([], 2)
def sortS (xs : List tNote.den) : List tNote.den × Int := if 60 < (xs.length : Int) then ([], 5) else if notesF xs = true then (if twinB (srt ltN xs) = true then ([], 4) else (srt ltN xs, 0)) else ([], 1)
theorem notesOk {xs : List tNote.den} (h : notesF xs = true) : AllOk goodN xs := fun x hx => List.all_eq_true.1 h x hx
theorem makeS_len (xs : List tNote.den) : (makeS xs).1.length ≤ xs.length := by
  unfold makeS; repeat' split
  all_goals simp [srt_len]
theorem sortS_len (xs : List tNote.den) : (sortS xs).1.length ≤ 60 := by
  unfold sortS
  by_cases h : 60 < (xs.length : Int)
  · rw [if_pos h]; simp
  · rw [if_neg h]; repeat' split
    all_goals simp [srt_len]
    omega
def ann_hasTwins_0 : LAnn := { sameS := [0], modS := [2, 3], sameH := [], modH := [], base := 900000, nilE := [], nilB := [], G := fun
  | ⟨[.view (.pair (.pair (.int .i64) (.int .i64)) (.pair (.pair (.int .i64) (.int .i64)) (.pair (.int .i64) (.pair (.int .i64) (.int .i64))))) xs], [], [.bool r, .int .i64 i], []⟩ => some (.p ((1 ≤ i ∧ (i = 1 ∨ i ≤ (xs.length : Int))) ∧ xs.length ≤ 1000 ∧ AllOk goodN xs), .ite (twinF xs (xs.length - i.toNat) i.toNat) (.leaf .ret [.bool true, .unk] []) (.leaf (.exit 0) [.bool r, .unk] []))
  | _ => none }
def ct_hasTwins : Ct := ctOf [.v qNote] (fun ((xs : List tNote.den), _) => .p (xs.length ≤ 1000 ∧ AllOk goodN xs)) (fun ((xs : List tNote.den), _) => .bool (twinB xs))
set_option maxHeartbeats 1000000 in
theorem loop_hasTwins_0 : LoopSat Try.prog Try.f146.ntmps (loopAt Try.f146 0) ann_hasTwins_0 := by
  refine loopSat_of (C := C_Sb) (L := (addL (firstId (loopAt Try.f146 0)) ann_hasTwins_0 noL)) (wr := false) mixedOk C_Sb_ok (loopsIn0 (by kernel_rfl)) (fun d => match d.same, d.vals with | [.view _ xs], [_, .int _ i] => ((xs.length : Int) - i).toNat | _, _ => 0) fun d p t hG hp => ?_
  simp only [ann_hasTwins_0] at hG
  split at hG
  rotate_left
  · simp at hG
  rename_i xs r i
  simp only [Option.some.injEq, Prod.mk.injEq] at hG
  obtain ⟨rfl, rfl⟩ := hG
  have htree : exRound Try.prog C_Sb false (addL (firstId (loopAt Try.f146 0)) ann_hasTwins_0 noL) Try.f146.ntmps ann_hasTwins_0 (loopAt Try.f146 0) ⟨[.view tNote xs], [], [.bool r, .int .i64 i], []⟩ = .ite (decide (i < (↑xs.length : Int))) (.need (inK IntKind.i64 (i - (1 : Int))) (.need ((0 : Int) ≤ i - (1 : Int) ∧ i - (1 : Int) < (↑xs.length : Int)) (.need ((0 : Int) ≤ i ∧ i < (↑xs.length : Int)) (.need (noteF (((getT tNote xs (i - (1 : Int))).fst.fst, (getT tNote xs (i - (1 : Int))).fst.snd), ((getT tNote xs (i - (1 : Int))).snd.fst.fst, (getT tNote xs (i - (1 : Int))).snd.fst.snd), (getT tNote xs (i - (1 : Int))).snd.snd.fst, (getT tNote xs (i - (1 : Int))).snd.snd.snd.fst, (getT tNote xs (i - (1 : Int))).snd.snd.snd.snd) = true ∧ noteF (((getT tNote xs i).fst.fst, (getT tNote xs i).fst.snd), ((getT tNote xs i).snd.fst.fst, (getT tNote xs i).snd.fst.snd), (getT tNote xs i).snd.snd.fst, (getT tNote xs i).snd.snd.snd.fst, (getT tNote xs i).snd.snd.snd.snd) = true) (.ite (cmpN (((getT tNote xs (i - (1 : Int))).fst.fst, (getT tNote xs (i - (1 : Int))).fst.snd), ((getT tNote xs (i - (1 : Int))).snd.fst.fst, (getT tNote xs (i - (1 : Int))).snd.fst.snd), (getT tNote xs (i - (1 : Int))).snd.snd.fst, (getT tNote xs (i - (1 : Int))).snd.snd.snd.fst, (getT tNote xs (i - (1 : Int))).snd.snd.snd.snd) (((getT tNote xs i).fst.fst, (getT tNote xs i).fst.snd), ((getT tNote xs i).snd.fst.fst, (getT tNote xs i).snd.fst.snd), (getT tNote xs i).snd.snd.fst, (getT tNote xs i).snd.snd.snd.fst, (getT tNote xs i).snd.snd.snd.snd) == (0 : Int)) (.leaf (.ret, ⟨[.view (tFrac.pair (tFrac.pair (I64.pair (I64.pair I64)))) (xs)], [], [.bool (true), .int .i64 (i)], []⟩)) (.need (inK IntKind.i64 (i + (1 : Int))) (.leaf (.normal, ⟨[.view (tFrac.pair (tFrac.pair (I64.pair (I64.pair I64)))) (xs)], [], [.bool (r), .int .i64 (i + (1 : Int))], []⟩)))))))) (.leaf ((.exit 0), ⟨[.view (tFrac.pair (tFrac.pair (I64.pair (I64.pair I64)))) (xs)], [], [.bool (r), .int .i64 (i)], []⟩)) := by kernel_rfl
  rw [htree]
  clear htree
  replace hp : (1 ≤ i ∧ (i = 1 ∨ i ≤ (xs.length : Int))) ∧ xs.length ≤ 1000 ∧ AllOk goodN xs := hp
  simp only [Tree.ok, tyd_inj, packAV, AV.same, AV.same.sameL, encV, encS, enc, inK, Nd.ok, List.headD_cons, List.cons_append, List.nil_append, List.append_nil, true_and, and_true, Bool.true_and, Bool.and_true, loop_next, weakBs_nil, weakBs_cons, weakB_self, weakB_row, weakB_int, weakL_nil, weakL_unk, weakL_guess, isRow_own, isRow_unk, weakL_int, weakL_bool, weakL_str, weakL_own, weakL_view, weakL_nilS, noRow_int, noRow_bool, own_inj, LTree.val, cond_true, cond_false, Prod.mk.injEq, List.cons.injEq, AV.int.injEq, AV.bool.injEq, AV.str.injEq, AV.agg.injEq, ann_hasTwins_0, decide_eq_true_eq, decide_eq_false_iff_not, getT, etaN, beq_iff_eq, beq_eq_false_iff_ne, ne_eq]
  refine ⟨fun ha => ?_, fun ha => ?_⟩
  · have h1 := twinF_go xs i.toNat (by omega)
    have g1 := allOk_get hp.2.2 tNote.zero (i := i.toNat) (by omega)
    have g2 := allOk_get hp.2.2 tNote.zero (i := i.toNat - 1) (by omega)
    rw [show (i + 1).toNat = i.toNat + 1 by omega, show (i - 1).toNat = i.toNat - 1 by omega, h1]
    generalize cmpN (xs.getD (i.toNat - 1) tNote.zero) (xs.getD i.toNat tNote.zero) = c
    by_cases hc : c = 0
    · rw [decide_eq_true hc, Bool.true_or]
      repeat' first | apply And.intro | intro _
      all_goals first | omega | exact hp.2.2 _ ‹_› | assumption | rfl | trivial | contradiction | (simp [Tree.ok, tyd_inj, packAV, AV.same, AV.same.sameL, encV, encS, enc, inK, Nd.ok, List.headD_cons, List.cons_append, List.nil_append, List.append_nil, true_and, and_true, Bool.true_and, Bool.and_true, loop_next, weakBs_nil, weakBs_cons, weakB_self, weakB_row, weakB_int, weakL_nil, weakL_unk, weakL_guess, isRow_own, isRow_unk, weakL_int, weakL_bool, weakL_str, weakL_own, weakL_view, weakL_nilS, noRow_int, noRow_bool, own_inj, LTree.val, cond_true, cond_false, Prod.mk.injEq, List.cons.injEq, AV.int.injEq, AV.bool.injEq, AV.str.injEq, AV.agg.injEq]; done)
    · rw [decide_eq_false hc, Bool.false_or]
      repeat' first | apply And.intro | intro _
      all_goals first | omega | exact hp.2.2 _ ‹_› | assumption | rfl | trivial | contradiction | (simp [Tree.ok, tyd_inj, packAV, AV.same, AV.same.sameL, encV, encS, enc, inK, Nd.ok, List.headD_cons, List.cons_append, List.nil_append, List.append_nil, true_and, and_true, Bool.true_and, Bool.and_true, loop_next, weakBs_nil, weakBs_cons, weakB_self, weakB_row, weakB_int, weakL_nil, weakL_unk, weakL_guess, isRow_own, isRow_unk, weakL_int, weakL_bool, weakL_str, weakL_own, weakL_view, weakL_nilS, noRow_int, noRow_bool, own_inj, LTree.val, cond_true, cond_false, Prod.mk.injEq, List.cons.injEq, AV.int.injEq, AV.bool.injEq, AV.str.injEq, AV.agg.injEq]; done)
  · rw [show xs.length - i.toNat = 0 by omega]
    simp [Tree.ok, tyd_inj, packAV, AV.same, AV.same.sameL, encV, encS, enc, inK, Nd.ok, List.headD_cons, List.cons_append, List.nil_append, List.append_nil, true_and, and_true, Bool.true_and, Bool.and_true, loop_next, weakBs_nil, weakBs_cons, weakB_self, weakB_row, weakB_int, weakL_nil, weakL_unk, weakL_guess, isRow_own, isRow_unk, weakL_int, weakL_bool, weakL_str, weakL_own, weakL_view, weakL_nilS, noRow_int, noRow_bool, own_inj, LTree.val, cond_true, cond_false, Prod.mk.injEq, List.cons.injEq, AV.int.injEq, AV.bool.injEq, AV.str.injEq, AV.agg.injEq, twinF]
theorem loops_hasTwins : ∀ c, Try.f146.body = some c → LoopsOk Try.prog (addL (firstId (loopAt Try.f146 0)) ann_hasTwins_0 noL) Try.f146.ntmps c := loopsN fun i hi ann h => by
  have hn : loopN Try.f146 = 1 := by kernel_rfl
  rw [hn] at hi
  exact match i, hi, h with
    | 0, _, h => (Option.some.inj ((show (addL (firstId (loopAt Try.f146 0)) ann_hasTwins_0 noL) (firstId (loopAt Try.f146 0)) = some ann_hasTwins_0 from by kernel_rfl).symm.trans h)) ▸ loop_hasTwins_0
set_option maxHeartbeats 1000000 in
theorem sat_hasTwins : Sat Try.prog 146 ct_hasTwins := by
  refine sat_typed (C := C_Sb) (L := (addL (firstId (loopAt Try.f146 0)) ann_hasTwins_0 noL)) (wr := false) mixedOk Try.func146 C_Sb_ok (loops_hasTwins) (fun _ => by first | rfl | (simp [ownsOf, ownsOf.ownsL, enc, encV, encS])) fun x hp => ?_
  obtain ⟨(xs : List tNote.den), _⟩ := x
  replace hp : xs.length ≤ 1000 ∧ AllOk goodN xs := hp
  have htree : exFunc Try.prog C_Sb false (addL (firstId (loopAt Try.f146 0)) ann_hasTwins_0 noL) Try.f146 (encA [.v qNote] (xs, ())) = .need (((1 : Int) ≤ (1 : Int) ∧ ((1 : Int) = (1 : Int) ∨ (1 : Int) ≤ (↑xs.length : Int))) ∧ xs.length ≤ (1000 : Nat) ∧ AllOk goodN xs) (.ite (twinF xs (xs.length - Int.toNat (1 : Int)) (Int.toNat (1 : Int))) (.leaf [.bool (true)]) (.leaf [.lit false])) := by kernel_rfl
  refine (congrArg (Tree.ok _) htree).mpr ?_
  clear htree
  simp only [Tree.ok, tyd_inj, packAV, AV.same, AV.same.sameL, encV, encS, enc, inK, Nd.ok, List.headD_cons, List.cons_append, List.nil_append, List.append_nil, true_and, and_true, Bool.true_and, Bool.and_true, twinB, show (1 : Int).toNat = 1 from rfl]
  repeat' first | apply And.intro | intro _
  all_goals first | omega | exact hp.2 _ ‹_› | trivial | simp_all
def C_Sc_1 : FuncId → Option Ct := addC 146 ct_hasTwins C_Sb
theorem C_Sc_1_ok : COk Try.prog C_Sc_1 := addC_ok C_Sb_ok sat_hasTwins
def ct_sortedN : Ct := ctOf [.v qNote] (fun ((xs : List tNote.den), _) => .p (xs.length ≤ 1000 ∧ AllOk goodN xs)) (fun ((xs : List tNote.den), _) => .own tNote (srt ltN xs))
set_option maxHeartbeats 1000000 in
theorem sat_sortedN : Sat Try.prog 141 ct_sortedN := by
  refine sat_typed (C := C_Sc_1) (L := noL) (wr := false) mixedOk Try.func141 C_Sc_1_ok (loops0 (by kernel_rfl)) (fun _ => by first | rfl | (simp [ownsOf, ownsOf.ownsL, enc, encV, encS])) fun x hp => ?_
  obtain ⟨(xs : List tNote.den), _⟩ := x
  replace hp : xs.length ≤ 1000 ∧ AllOk goodN xs := hp
  have htree : exFunc Try.prog C_Sc_1 false noL Try.f141 (encA [.v qNote] (xs, ())) = .need (xs.length ≤ (16777216 : Nat)) (.need (xs.length ≤ (1000 : Nat) ∧ AllOk goodN xs) (.leaf [.own (tFrac.pair (tFrac.pair (I64.pair (I64.pair I64)))) (srt ltN xs)])) := by kernel_rfl
  refine (congrArg (Tree.ok _) htree).mpr ?_
  clear htree
  simp only [Tree.ok, tyd_inj, packAV, AV.same, AV.same.sameL, encV, encS, enc, inK, Nd.ok, List.headD_cons, List.cons_append, List.nil_append, List.append_nil, true_and, and_true, Bool.true_and, Bool.and_true]
  repeat' first | apply And.intro | intro _
  all_goals first | omega | exact hp.2 _ ‹_› | trivial | assumption | exact hp.1
def C_Sc_2 : FuncId → Option Ct := addC 141 ct_sortedN C_Sc_1
theorem C_Sc_2_ok : COk Try.prog C_Sc_2 := addC_ok C_Sc_1_ok sat_sortedN
def ct_iSortNotes : Ct := ctOf [.v qNote] (fun ((xs : List tNote.den), _) => .p ((xs.length : Int) ≤ 9223372036854775807)) (fun ((xs : List tNote.den), _) => .tup [.agg [.own tNote (sortS xs).1], .int .i64 (sortS xs).2])
set_option maxHeartbeats 1000000 in
theorem sat_iSortNotes : Sat Try.prog 58 ct_iSortNotes := by
  refine sat_typed (C := C_Sc_2) (L := noL) (wr := false) mixedOk Try.func58 C_Sc_2_ok (loops0 (by kernel_rfl)) (fun _ => by first | rfl | (simp [ownsOf, ownsOf.ownsL, enc, encV, encS])) fun x hp => ?_
  obtain ⟨(xs : List tNote.den), _⟩ := x
  replace hp : (xs.length : Int) ≤ 9223372036854775807 := hp
  have htree : exFunc Try.prog C_Sc_2 false noL Try.f58 (encA [.v qNote] (xs, ())) = .ite (decide ((60 : Int) < (↑xs.length : Int))) (.leaf [.agg [.nilS], .int .i64 ((5 : Int))]) (.need ((↑xs.length : Int) ≤ (9223372036854775807 : Int)) (.ite (!notesF xs) (.leaf [.agg [.nilS], .int .i64 ((1 : Int))]) (.need (xs.length ≤ (1000 : Nat) ∧ AllOk goodN xs) (.need ((srt ltN xs).length ≤ (1000 : Nat) ∧ AllOk goodN (srt ltN xs)) (.ite (twinB (srt ltN xs)) (.leaf [.agg [.nilS], .int .i64 ((4 : Int))]) (.leaf [.agg [.own (tFrac.pair (tFrac.pair (I64.pair (I64.pair I64)))) (srt ltN xs)], .int .i64 ((0 : Int))])))))) := by kernel_rfl
  refine (congrArg (Tree.ok _) htree).mpr ?_
  clear htree
  have hk := @notesOk xs
  simp only [Tree.ok, tyd_inj, packAV, AV.same, AV.same.sameL, encV, encS, enc, inK, Nd.ok, List.headD_cons, List.cons_append, List.nil_append, List.append_nil, true_and, and_true, Bool.true_and, Bool.and_true, sortS, decide_eq_true_eq, decide_eq_false_iff_not, srt_len]
  by_cases h1 : 60 < (xs.length : Int)
  · simp [h1]
  · simp only [if_neg h1]
    cases h2 : notesF xs
    · simp; omega
    · have hk := hk h2
      cases h3 : twinB (srt ltN xs)
      all_goals
        simp only [if_true, Bool.not_true, Bool.false_eq_true, if_false]
        repeat' first | apply And.intro | intro _
        all_goals first | omega | exact hk _ ‹_› | exact hk.srt _ ‹_› | trivial | assumption | contradiction | rfl | (simp at *; done)
def C_Sc_3 : FuncId → Option Ct := addC 58 ct_iSortNotes C_Sc_2
theorem C_Sc_3_ok : COk Try.prog C_Sc_3 := addC_ok C_Sc_2_ok sat_iSortNotes
def ann_l18Sort_0 : LAnn := { sameS := [], modS := [3, 4], sameH := [], modH := [], base := 900000, nilE := [], nilB := [], G := fun
  | ⟨[], [], [.own (.pair (.pair (.int .i64) (.int .i64)) (.pair (.pair (.int .i64) (.int .i64)) (.pair (.int .i64) (.pair (.int .i64) (.int .i64))))) xs, .int .i64 i], []⟩ => some (.p ((1 ≤ i ∧ (i = 1 ∨ i ≤ (xs.length : Int))) ∧ xs.length ≤ 1000 ∧ AllOk goodN xs ∧ Srt ltN (win xs 0 i.toNat)), .leaf (.exit 0) [.own tNote (srt ltN xs), .unk] [])
  | _ => none }
def ann_l18Sort_1 : LAnn := { sameS := [4], modS := [3, 5], sameH := [], modH := [], base := 900000, nilE := [], nilB := [], G := fun
  | ⟨[.int .i64 i], [], [.own (.pair (.pair (.int .i64) (.int .i64)) (.pair (.pair (.int .i64) (.int .i64)) (.pair (.int .i64) (.pair (.int .i64) (.int .i64))))) xs, .int .i64 k], []⟩ => some (.p ((0 ≤ k ∧ k ≤ i ∧ i < (xs.length : Int)) ∧ xs.length ≤ 1000 ∧ AllOk goodN xs ∧ InsInv ltN xs 0 k.toNat (i.toNat + 1)), .leaf (.exit 2) [.own tNote (srtW ltN 0 (i.toNat + 1) xs), .unk] [])
  | _ => none }
def ct_l18Sort : Ct := ctOf [.v qNote] (fun ((xs : List tNote.den), _) => .p (xs.length ≤ 1000 ∧ AllOk goodN xs)) (fun ((xs : List tNote.den), _) => .own tNote (srt ltN xs))
set_option maxHeartbeats 1000000 in
theorem loop_l18Sort_1 : LoopSat Try.prog Try.f137.ntmps (loopAt Try.f137 1) ann_l18Sort_1 := by
  refine loopSat_of (C := C_Sc_3) (L := (addL (firstId (loopAt Try.f137 1)) ann_l18Sort_1 (addL (firstId (loopAt Try.f137 0)) ann_l18Sort_0 noL))) (wr := false) mixedOk C_Sc_3_ok (loopsIn0 (by kernel_rfl)) (fun d => match d.vals with | [_, .int _ k] => k.toNat | _ => 0) fun d p t hG hp => ?_
  simp only [ann_l18Sort_1] at hG
  split at hG
  rotate_left
  · simp at hG
  rename_i i xs k
  simp only [Option.some.injEq, Prod.mk.injEq] at hG
  obtain ⟨rfl, rfl⟩ := hG
  have htree : exRound Try.prog C_Sc_3 false (addL (firstId (loopAt Try.f137 1)) ann_l18Sort_1 (addL (firstId (loopAt Try.f137 0)) ann_l18Sort_0 noL)) Try.f137.ntmps ann_l18Sort_1 (loopAt Try.f137 1) ⟨[.int .i64 i], [], [.own tNote xs, .int .i64 k], []⟩ = .ite (decide ((0 : Int) < k)) (.need ((0 : Int) ≤ k ∧ k < (↑xs.length : Int)) (.need (inK IntKind.i64 (k - (1 : Int))) (.need ((0 : Int) ≤ k - (1 : Int) ∧ k - (1 : Int) < (↑xs.length : Int)) (.need (k.toNat < xs.length ∧ (k - (1 : Int)).toNat < xs.length ∧ noteF (((xs.getD k.toNat tNote.zero).fst.fst, (xs.getD k.toNat tNote.zero).fst.snd), ((xs.getD k.toNat tNote.zero).snd.fst.fst, (xs.getD k.toNat tNote.zero).snd.fst.snd), (xs.getD k.toNat tNote.zero).snd.snd.fst, (xs.getD k.toNat tNote.zero).snd.snd.snd.fst, (xs.getD k.toNat tNote.zero).snd.snd.snd.snd) = true ∧ noteF (((xs.getD (k - (1 : Int)).toNat tNote.zero).fst.fst, (xs.getD (k - (1 : Int)).toNat tNote.zero).fst.snd), ((xs.getD (k - (1 : Int)).toNat tNote.zero).snd.fst.fst, (xs.getD (k - (1 : Int)).toNat tNote.zero).snd.fst.snd), (xs.getD (k - (1 : Int)).toNat tNote.zero).snd.snd.fst, (xs.getD (k - (1 : Int)).toNat tNote.zero).snd.snd.snd.fst, (xs.getD (k - (1 : Int)).toNat tNote.zero).snd.snd.snd.snd) = true) (.ite (decide (cmpN (((xs.getD k.toNat tNote.zero).fst.fst, (xs.getD k.toNat tNote.zero).fst.snd), ((xs.getD k.toNat tNote.zero).snd.fst.fst, (xs.getD k.toNat tNote.zero).snd.fst.snd), (xs.getD k.toNat tNote.zero).snd.snd.fst, (xs.getD k.toNat tNote.zero).snd.snd.snd.fst, (xs.getD k.toNat tNote.zero).snd.snd.snd.snd) (((xs.getD (k - (1 : Int)).toNat tNote.zero).fst.fst, (xs.getD (k - (1 : Int)).toNat tNote.zero).fst.snd), ((xs.getD (k - (1 : Int)).toNat tNote.zero).snd.fst.fst, (xs.getD (k - (1 : Int)).toNat tNote.zero).snd.fst.snd), (xs.getD (k - (1 : Int)).toNat tNote.zero).snd.snd.fst, (xs.getD (k - (1 : Int)).toNat tNote.zero).snd.snd.snd.fst, (xs.getD (k - (1 : Int)).toNat tNote.zero).snd.snd.snd.snd) < (0 : Int))) (.need ((0 : Int) ≤ k ∧ k < (↑xs.length : Int)) (.need (k.toNat < xs.length) (.need (inK IntKind.i64 (k - (1 : Int))) (.need ((0 : Int) ≤ k - (1 : Int) ∧ k - (1 : Int) < (↑xs.length : Int)) (.need ((k - (1 : Int)).toNat < xs.length) (.need ((0 : Int) ≤ k ∧ k < (↑xs.length : Int)) (.need (k.toNat < xs.length) (.need (inK IntKind.i64 (k - (1 : Int))) (.need ((0 : Int) ≤ k - (1 : Int) ∧ k - (1 : Int) < (↑(xs.set k.toNat (((xs.getD (k - (1 : Int)).toNat tNote.zero).fst.fst, (xs.getD (k - (1 : Int)).toNat tNote.zero).fst.snd), ((xs.getD (k - (1 : Int)).toNat tNote.zero).snd.fst.fst, (xs.getD (k - (1 : Int)).toNat tNote.zero).snd.fst.snd), (xs.getD (k - (1 : Int)).toNat tNote.zero).snd.snd.fst, (xs.getD (k - (1 : Int)).toNat tNote.zero).snd.snd.snd.fst, (xs.getD (k - (1 : Int)).toNat tNote.zero).snd.snd.snd.snd)).length : Int)) (.need ((k - (1 : Int)).toNat < (xs.set k.toNat (((xs.getD (k - (1 : Int)).toNat tNote.zero).fst.fst, (xs.getD (k - (1 : Int)).toNat tNote.zero).fst.snd), ((xs.getD (k - (1 : Int)).toNat tNote.zero).snd.fst.fst, (xs.getD (k - (1 : Int)).toNat tNote.zero).snd.fst.snd), (xs.getD (k - (1 : Int)).toNat tNote.zero).snd.snd.fst, (xs.getD (k - (1 : Int)).toNat tNote.zero).snd.snd.snd.fst, (xs.getD (k - (1 : Int)).toNat tNote.zero).snd.snd.snd.snd)).length) (.need (inK IntKind.i64 (k - (1 : Int))) (.leaf (.normal, ⟨[.int .i64 (i)], [], [.own (tFrac.pair (tFrac.pair (I64.pair (I64.pair I64)))) ((xs.set k.toNat (((xs.getD (k - (1 : Int)).toNat tNote.zero).fst.fst, (xs.getD (k - (1 : Int)).toNat tNote.zero).fst.snd), ((xs.getD (k - (1 : Int)).toNat tNote.zero).snd.fst.fst, (xs.getD (k - (1 : Int)).toNat tNote.zero).snd.fst.snd), (xs.getD (k - (1 : Int)).toNat tNote.zero).snd.snd.fst, (xs.getD (k - (1 : Int)).toNat tNote.zero).snd.snd.snd.fst, (xs.getD (k - (1 : Int)).toNat tNote.zero).snd.snd.snd.snd)).set (k - (1 : Int)).toNat (((xs.getD k.toNat tNote.zero).fst.fst, (xs.getD k.toNat tNote.zero).fst.snd), ((xs.getD k.toNat tNote.zero).snd.fst.fst, (xs.getD k.toNat tNote.zero).snd.fst.snd), (xs.getD k.toNat tNote.zero).snd.snd.fst, (xs.getD k.toNat tNote.zero).snd.snd.snd.fst, (xs.getD k.toNat tNote.zero).snd.snd.snd.snd)), .int .i64 (k - (1 : Int))], []⟩))))))))))))) (.leaf ((.exit 2), ⟨[.int .i64 (i)], [], [.own (tFrac.pair (tFrac.pair (I64.pair (I64.pair I64)))) (xs), .int .i64 (k)], []⟩))))))) (.leaf ((.exit 2), ⟨[.int .i64 (i)], [], [.own (tFrac.pair (tFrac.pair (I64.pair (I64.pair I64)))) (xs), .int .i64 (k)], []⟩)) := by kernel_rfl
  rw [htree]
  clear htree
  replace hp : (0 ≤ k ∧ k ≤ i ∧ i < (xs.length : Int)) ∧ xs.length ≤ 1000 ∧ AllOk goodN xs ∧ InsInv ltN xs 0 k.toNat (i.toNat + 1) := hp
  obtain ⟨hi, hl, ho, hv⟩ := hp
  have he := ins_end swoN (l := xs) (a := 0) (j := k.toNat) (e := i.toNat + 1) tNote.zero (by omega) (by omega) (by omega) ho hv
  have hg := ins_go swoN (l := xs) (a := 0) (j := k.toNat) (e := i.toNat + 1) tNote.zero
  have g1 := allOk_get ho tNote.zero (i := k.toNat) (by omega)
  simp only [Tree.ok, tyd_inj, packAV, AV.same, AV.same.sameL, encV, encS, enc, inK, Nd.ok, List.headD_cons, List.cons_append, List.nil_append, List.append_nil, true_and, and_true, Bool.true_and, Bool.and_true, loop_next, weakBs_nil, weakBs_cons, weakB_self, weakB_row, weakB_int, weakL_nil, weakL_unk, weakL_guess, isRow_own, isRow_unk, weakL_int, weakL_bool, weakL_str, weakL_own, weakL_view, weakL_nilS, noRow_int, noRow_bool, own_inj, LTree.val, cond_true, cond_false, Prod.mk.injEq, List.cons.injEq, AV.int.injEq, AV.bool.injEq, AV.str.injEq, AV.agg.injEq, ann_l18Sort_1, decide_eq_true_eq, decide_eq_false_iff_not, etaN]
  refine ⟨fun ha => ?_, fun ha => ?_⟩
  · have g2 := allOk_get ho tNote.zero (i := k.toNat - 1) (by omega)
    rw [show (k - 1).toNat = k.toNat - 1 by omega]
    by_cases hc : cmpN (xs.getD k.toNat tNote.zero) (xs.getD (k.toNat - 1) tNote.zero) < 0
    · obtain ⟨k1, k2, k3⟩ := hg (by omega) (by omega) (by omega) ho hv ((ltN_true _ _).2 hc)
      simp only [k1, List.length_set]
      repeat' first | apply And.intro | intro _
      all_goals first | omega | assumption | exact k2.1 | exact k2.2.1 | exact k2.2.2 _ ‹_› _ ‹_› | exact k3 _ ‹_› | exact ho _ ‹_› | trivial | rfl | contradiction
    · rw [he (.inr ((ltN_false _ _).2 hc))]
      repeat' first | apply And.intro | intro _
      all_goals first | omega | assumption | exact ho _ ‹_› | trivial | rfl | contradiction
  · rw [he (.inl (by omega))]
    try simp [Tree.ok, tyd_inj, packAV, AV.same, AV.same.sameL, encV, encS, enc, inK, Nd.ok, List.headD_cons, List.cons_append, List.nil_append, List.append_nil, true_and, and_true, Bool.true_and, Bool.and_true, loop_next, weakBs_nil, weakBs_cons, weakB_self, weakB_row, weakB_int, weakL_nil, weakL_unk, weakL_guess, isRow_own, isRow_unk, weakL_int, weakL_bool, weakL_str, weakL_own, weakL_view, weakL_nilS, noRow_int, noRow_bool, own_inj, LTree.val, cond_true, cond_false, Prod.mk.injEq, List.cons.injEq, AV.int.injEq, AV.bool.injEq, AV.str.injEq, AV.agg.injEq]
set_option maxHeartbeats 1000000 in
theorem loop_l18Sort_0 : LoopSat Try.prog Try.f137.ntmps (loopAt Try.f137 0) ann_l18Sort_0 := by
  refine loopSat_of (C := C_Sc_3) (L := (addL (firstId (loopAt Try.f137 1)) ann_l18Sort_1 (addL (firstId (loopAt Try.f137 0)) ann_l18Sort_0 noL))) (wr := false) mixedOk C_Sc_3_ok (loopsIn1 (b := loopAt Try.f137 1) (by kernel_rfl) (fun ann h => (Option.some.inj ((show (addL (firstId (loopAt Try.f137 1)) ann_l18Sort_1 (addL (firstId (loopAt Try.f137 0)) ann_l18Sort_0 noL)) (firstId (loopAt Try.f137 1)) = some ann_l18Sort_1 from by kernel_rfl).symm.trans h)) ▸ loop_l18Sort_1)) (fun d => match d.vals with | [.own _ xs, .int _ i] => ((xs.length : Int) - i).toNat | _ => 0) fun d p t hG hp => ?_
  simp only [ann_l18Sort_0] at hG
  split at hG
  rotate_left
  · simp at hG
  rename_i xs i
  simp only [Option.some.injEq, Prod.mk.injEq] at hG
  obtain ⟨rfl, rfl⟩ := hG
  have htree : exRound Try.prog C_Sc_3 false (addL (firstId (loopAt Try.f137 1)) ann_l18Sort_1 (addL (firstId (loopAt Try.f137 0)) ann_l18Sort_0 noL)) Try.f137.ntmps ann_l18Sort_0 (loopAt Try.f137 0) ⟨[], [], [.own tNote xs, .int .i64 i], []⟩ = .ite (decide (i < (↑xs.length : Int))) (.need (((0 : Int) ≤ i ∧ i ≤ i ∧ i < (↑xs.length : Int)) ∧ xs.length ≤ (1000 : Nat) ∧ AllOk goodN xs ∧ InsInv ltN xs (0 : Nat) i.toNat (i.toNat + (1 : Nat))) (.need (inK IntKind.i64 (i + (1 : Int))) (.leaf (.normal, ⟨[], [], [.own (tFrac.pair (tFrac.pair (I64.pair (I64.pair I64)))) (srtW ltN (0 : Nat) (i.toNat + (1 : Nat)) xs), .int .i64 (i + (1 : Int))], []⟩)))) (.leaf ((.exit 0), ⟨[], [], [.own (tFrac.pair (tFrac.pair (I64.pair (I64.pair I64)))) (xs), .int .i64 (i)], []⟩)) := by kernel_rfl
  rw [htree]
  clear htree
  replace hp : (1 ≤ i ∧ (i = 1 ∨ i ≤ (xs.length : Int))) ∧ xs.length ≤ 1000 ∧ AllOk goodN xs ∧ Srt ltN (win xs 0 i.toNat) := hp
  obtain ⟨hi, hl, ho, hs⟩ := hp
  simp only [Tree.ok, tyd_inj, packAV, AV.same, AV.same.sameL, encV, encS, enc, inK, Nd.ok, List.headD_cons, List.cons_append, List.nil_append, List.append_nil, true_and, and_true, Bool.true_and, Bool.and_true, loop_next, weakBs_nil, weakBs_cons, weakB_self, weakB_row, weakB_int, weakL_nil, weakL_unk, weakL_guess, isRow_own, isRow_unk, weakL_int, weakL_bool, weakL_str, weakL_own, weakL_view, weakL_nilS, noRow_int, noRow_bool, own_inj, LTree.val, cond_true, cond_false, Prod.mk.injEq, List.cons.injEq, AV.int.injEq, AV.bool.injEq, AV.str.injEq, AV.agg.injEq, ann_l18Sort_0, decide_eq_true_eq, decide_eq_false_iff_not]
  refine ⟨fun ha => ?_, fun ha => ?_⟩
  · have l1 := srtW_len (lt := ltN) (l := xs) (a := 0) (b := i.toNat + 1) (by omega) (by omega)
    have o1 := allOk_srtW (lt := ltN) (l := xs) (a := 0) (b := i.toNat + 1) (by omega) (by omega) ho
    have w1 := win_srtW_same (lt := ltN) (l := xs) (a := 0) (b := i.toNat + 1) (by omega) (by omega)
    have s1 : Srt ltN (srt ltN (win xs 0 (i.toNat + 1))) := sorted_srt swoN fun x hx => ho x (by unfold win at hx; exact List.mem_of_mem_take (List.mem_of_mem_drop hx))
    have e1 := srt_srtW swoN (l := xs) (a := 0) (b := i.toNat + 1) (by omega) (by omega) ho
    have v1 := insInv_begin hs
    rw [show (i + 1).toNat = i.toNat + 1 by omega, l1, w1, e1]
    repeat' first | apply And.intro | intro _
    all_goals first | omega | assumption | exact o1 _ ‹_› | exact ho _ ‹_› | exact v1.1 | exact v1.2.1 | exact v1.2.2 _ ‹_› _ ‹_› | trivial | rfl
  · have hw : win xs 0 i.toNat = xs := by unfold win; rw [List.drop_zero, List.take_of_length_le (by omega)]
    rw [hw] at hs
    rw [srt_id hs]
    try simp [Tree.ok, tyd_inj, packAV, AV.same, AV.same.sameL, encV, encS, enc, inK, Nd.ok, List.headD_cons, List.cons_append, List.nil_append, List.append_nil, true_and, and_true, Bool.true_and, Bool.and_true, loop_next, weakBs_nil, weakBs_cons, weakB_self, weakB_row, weakB_int, weakL_nil, weakL_unk, weakL_guess, isRow_own, isRow_unk, weakL_int, weakL_bool, weakL_str, weakL_own, weakL_view, weakL_nilS, noRow_int, noRow_bool, own_inj, LTree.val, cond_true, cond_false, Prod.mk.injEq, List.cons.injEq, AV.int.injEq, AV.bool.injEq, AV.str.injEq, AV.agg.injEq]
theorem loops_l18Sort : ∀ c, Try.f137.body = some c → LoopsOk Try.prog (addL (firstId (loopAt Try.f137 1)) ann_l18Sort_1 (addL (firstId (loopAt Try.f137 0)) ann_l18Sort_0 noL)) Try.f137.ntmps c := loopsN fun i hi ann h => by
  have hn : loopN Try.f137 = 2 := by kernel_rfl
  rw [hn] at hi
  exact match i, hi, h with
    | 0, _, h => (Option.some.inj ((show (addL (firstId (loopAt Try.f137 1)) ann_l18Sort_1 (addL (firstId (loopAt Try.f137 0)) ann_l18Sort_0 noL)) (firstId (loopAt Try.f137 0)) = some ann_l18Sort_0 from by kernel_rfl).symm.trans h)) ▸ loop_l18Sort_0
    | 1, _, h => (Option.some.inj ((show (addL (firstId (loopAt Try.f137 1)) ann_l18Sort_1 (addL (firstId (loopAt Try.f137 0)) ann_l18Sort_0 noL)) (firstId (loopAt Try.f137 1)) = some ann_l18Sort_1 from by kernel_rfl).symm.trans h)) ▸ loop_l18Sort_1
set_option maxHeartbeats 1000000 in
theorem sat_l18Sort : Sat Try.prog 137 ct_l18Sort := by
  refine sat_typed (C := C_Sc_3) (L := (addL (firstId (loopAt Try.f137 1)) ann_l18Sort_1 (addL (firstId (loopAt Try.f137 0)) ann_l18Sort_0 noL))) (wr := false) mixedOk Try.func137 C_Sc_3_ok (loops_l18Sort) (fun _ => by first | rfl | (simp [ownsOf, ownsOf.ownsL, enc, encV, encS])) fun x hp => ?_
  obtain ⟨(xs : List tNote.den), _⟩ := x
  replace hp : xs.length ≤ 1000 ∧ AllOk goodN xs := hp
  have htree : exFunc Try.prog C_Sc_3 false (addL (firstId (loopAt Try.f137 1)) ann_l18Sort_1 (addL (firstId (loopAt Try.f137 0)) ann_l18Sort_0 noL)) Try.f137 (encA [.v qNote] (xs, ())) = .need ((0 : Nat) + xs.length ≤ (16777216 : Nat)) (.need (((1 : Int) ≤ (1 : Int) ∧ ((1 : Int) = (1 : Int) ∨ (1 : Int) ≤ (↑([] ++ xs).length : Int))) ∧ ([] ++ xs).length ≤ (1000 : Nat) ∧ AllOk goodN ([] ++ xs) ∧ Srt ltN (win ([] ++ xs) (0 : Nat) (Int.toNat (1 : Int)))) (.leaf [.own (tFrac.pair (tFrac.pair (I64.pair (I64.pair I64)))) (srt ltN ([] ++ xs))])) := by kernel_rfl
  refine (congrArg (Tree.ok _) htree).mpr ?_
  clear htree
  have w1 : Srt ltN (win xs 0 (1 : Int).toNat) := win_one
  simp only [Tree.ok, tyd_inj, packAV, AV.same, AV.same.sameL, encV, encS, enc, inK, Nd.ok, List.headD_cons, List.cons_append, List.nil_append, List.append_nil, true_and, and_true, Bool.true_and, Bool.and_true, List.nil_append]
  repeat' first | apply And.intro | intro _
  all_goals first | omega | exact .inl trivial | exact hp.2 _ ‹_› | trivial | rfl | assumption
def C_Sc_4 : FuncId → Option Ct := addC 137 ct_l18Sort C_Sc_3
theorem C_Sc_4_ok : COk Try.prog C_Sc_4 := addC_ok C_Sc_3_ok sat_l18Sort
def ct_markScore : Ct := ctOfW [.os qNote, .v (.int .i64)] (fun ((ys : List tNote.den), (k : Int), _) => .p (ys.length ≤ 16777216 ∧ (0 ≤ k ∧ k ≤ 1000000000000))) (fun ((ys : List tNote.den), (k : Int), _) => .int .i64 (k + 7 * (ys.length : Int))) (fun ((ys : List tNote.den), (k : Int), _) => ⟨tNote, rowMark mkNoteV 7 ys.length k⟩)
set_option maxHeartbeats 1000000 in
theorem sat_markScore : Sat Try.prog 42 ct_markScore := by
  refine sat_typedW (C := C_Sc_4) (L := noL) (wr := false) mixedOk Try.func42 C_Sc_4_ok (loops0 (by kernel_rfl)) (fun _ => rfl) fun x hp => ?_
  obtain ⟨(ys : List tNote.den), (k : Int), _⟩ := x
  replace hp : ys.length ≤ 16777216 ∧ (0 ≤ k ∧ k ≤ 1000000000000) := hp
  have htree : exFuncW Try.prog C_Sc_4 false noL Try.f42 true (rowed.rowedL BR (encA [.os qNote, .v (.int .i64)] (ys, k, ()))) ⟨tNote, ys⟩ = .need (ys.length ≤ (16777216 : Nat) ∧ (0 : Int) ≤ k ∧ k ≤ (1000000000000 : Int)) (.leaf ([.int .i64 (k + (7 : Int) * (↑ys.length : Int))], some ⟨tFrac.pair (tFrac.pair (I64.pair (I64.pair I64))), rowMark mkNoteV (7 : Int) ys.length k⟩)) := by kernel_rfl
  refine (congrArg (Tree.ok _) htree).mpr ?_
  clear htree
  simp only [Tree.ok, tyd_inj, packAV, AV.same, AV.same.sameL, encV, encS, enc, inK, Nd.ok, List.headD_cons, List.cons_append, List.nil_append, List.append_nil, true_and, and_true, Bool.true_and, Bool.and_true]
  repeat' first | apply And.intro | intro _
  all_goals first | omega | trivial | assumption
def C_Sc_5 : FuncId → Option Ct := addC 42 ct_markScore C_Sc_4
theorem C_Sc_5_ok : COk Try.prog C_Sc_5 := addC_ok C_Sc_4_ok sat_markScore
def ct_heldScore : Ct := ctOf [.s qNote, .v (.int .i64)] (fun ((ys : List tNote.den), (k : Int), _) => .p (ys.length ≤ 16777216 ∧ (0 ≤ k ∧ k ≤ 1000000000000))) (fun ((ys : List tNote.den), (k : Int), _) => .int .i64 (heldR mkNoteV 7 ys k))
set_option maxHeartbeats 1000000 in
theorem sat_heldScore : Sat Try.prog 45 ct_heldScore := by
  refine sat_typed (C := C_Sc_5) (L := noL) (wr := false) mixedOk Try.func45 C_Sc_5_ok (loops0 (by kernel_rfl)) (fun _ => by first | rfl | (simp [ownsOf, ownsOf.ownsL, enc, encV, encS])) fun x hp => ?_
  obtain ⟨(ys : List tNote.den), (k : Int), _⟩ := x
  replace hp : ys.length ≤ 16777216 ∧ (0 ≤ k ∧ k ≤ 1000000000000) := hp
  have htree : exFunc Try.prog C_Sc_5 false noL Try.f45 (encA [.s qNote, .v (.int .i64)] (ys, k, ())) = .need (ys.length ≤ (16777216 : Nat) ∧ (0 : Int) ≤ k ∧ k ≤ (1000000000000 : Int)) (.ite (decide (heldR mkNoteV (7 : Int) ys k < (0 : Int))) (.leaf [.int .i64 ((-1 : Int))]) (.leaf [.int .i64 (heldR mkNoteV (7 : Int) ys k)])) := by kernel_rfl
  refine (congrArg (Tree.ok _) htree).mpr ?_
  clear htree
  simp only [Tree.ok, tyd_inj, packAV, AV.same, AV.same.sameL, encV, encS, enc, inK, Nd.ok, List.headD_cons, List.cons_append, List.nil_append, List.append_nil, true_and, and_true, Bool.true_and, Bool.and_true]
  repeat' first | apply And.intro | intro _
  all_goals first | omega | trivial | assumption | grind [heldR]
def C_Sc_6 : FuncId → Option Ct := addC 45 ct_heldScore C_Sc_5
theorem C_Sc_6_ok : COk Try.prog C_Sc_6 := addC_ok C_Sc_5_ok sat_heldScore
theorem heldR_mark3 {α : Type} [DecidableEq α] (f : Int → α) (s : Int) (n : Nat) (k : Int) : heldR f s (rowMark f s n k) k = k + s * (n : Int) := by
  simp [heldR, rowMark_length]

def C_Sc : FuncId → Option Ct := C_Sc_6
theorem C_Sc_ok : COk Try.prog C_Sc := C_Sc_6_ok
end Go.Proofs.Ytjgjcggecikdpaa
