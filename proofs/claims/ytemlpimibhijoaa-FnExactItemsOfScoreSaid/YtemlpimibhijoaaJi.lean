/- Contracts: the chords of a score, its items, of the program and the reference. Conditions: as each says. -/
import Derived.Test.YtemlpimibhijoaaJiL
set_option linter.unusedSimpArgs false
set_option linter.unusedVariables false
namespace Go.Proofs.Ytemlpimibhijoaa
open Go.RowKit Sx
set_option maxRecDepth 100000
set_option maxHeartbeats 1000000
def C_JiB : FuncId → Option Ct := addC 61 ct_spellKey (addC 52 ct_sSpellKey C_Jmi)
theorem C_JiB_ok : COk Try.prog C_JiB := addC_ok (addC_ok C_Jmi_ok sat_sSpellKey) sat_spellKey
abbrev qNoteD : Ty := .deep qNote
abbrev qqNote : Ty := .seq qNote
def ann_chordsOf_0 : LAnn := { sameS := [1, 11, 12], modS := [5, 13], sameH := [], modH := [], base := 900000, nilE := [], nilB := [], G := fun
  | ⟨[.int .i64 ch, .view (.pair (.pair (.int .i64) (.int .i64)) (.pair (.pair (.int .i64) (.int .i64)) (.pair (.int .i64) (.pair (.int .i64) (.int .i64))))) xs, .int .i64 m], [], [.own (.deep (.seq (.pair (.pair (.int .i64) (.int .i64)) (.pair (.pair (.int .i64) (.int .i64)) (.pair (.int .i64) (.pair (.int .i64) (.int .i64))))))) gs, .int .i64 i], []⟩ => some (.p (((0 ≤ i ∧ i ≤ m) ∧ m = (xs.length : Int) ∧ m ≤ 60 ∧ (gs.length : Int) ≤ i) ∧ ∀ g ∈ gs, gOk i g), .leaf (.exit 0) [.own qNoteD (chG ch (xs.drop i.toNat) gs), .unk] [])
  | _ => none }
def ct_chordsOf : Ct := ctOf [.s qNote, .v (.int .i64)] (fun ((xs : List tNote.den), (ch : Int), _) => .p (xs.length ≤ 60)) (fun ((xs : List tNote.den), (ch : Int), _) => .view qNote (chG ch xs []))
set_option maxHeartbeats 1000000 in
theorem loop_chordsOf_0 : LoopSat Try.prog Try.f57.ntmps (loopAt Try.f57 0) ann_chordsOf_0 := by
  refine loopSat_of (C := (addC 900000000 ctDeep C_JiB)) (L := (addL (firstId (loopAt Try.f57 0)) ann_chordsOf_0 noL)) (wr := false) mixedOk (addC_ok C_JiB_ok sat_deep) (loopsIn0 (by kernel_rfl)) (fun d => match d.same, d.vals with | [_, _, .int _ m], [_, .int _ i] => (m - i).toNat | _, _ => 0) fun d p t hG hp => ?_
  simp only [ann_chordsOf_0] at hG
  split at hG
  rotate_left
  · simp at hG
  rename_i ch xs m gs i
  simp only [Option.some.injEq, Prod.mk.injEq] at hG
  obtain ⟨rfl, rfl⟩ := hG
  have htree : exRound Try.prog (addC 900000000 ctDeep C_JiB) false (addL (firstId (loopAt Try.f57 0)) ann_chordsOf_0 noL) Try.f57.ntmps ann_chordsOf_0 (loopAt Try.f57 0) ⟨[.int .i64 ch, .view tNote xs, .int .i64 m], [], [.own qNoteD gs, .int .i64 i], []⟩ = .ite (decide (i < m)) (.need ((0 : Int) ≤ i ∧ i < (↑xs.length : Int)) (.ite ((getT tNote xs i).snd.snd.snd.snd != ch) (.need (inK IntKind.i64 (i + (1 : Int))) (.leaf (.normal, ⟨[.int .i64 (ch), .view (tFrac.pair (tFrac.pair (I64.pair (I64.pair I64)))) (xs), .int .i64 (m)], [], [.own (qNote.deep) (gs), .int .i64 (i + (1 : Int))], []⟩))) (.need (inK IntKind.i64 ((↑gs.length : Int) - (1 : Int))) (.ite (decide ((0 : Int) ≤ (↑gs.length : Int) - (1 : Int))) (.need ((0 : Int) ≤ (↑gs.length : Int) - (1 : Int) ∧ (↑gs.length : Int) - (1 : Int) < (↑gs.length : Int)) (.need (((↑gs.length : Int) - (1 : Int)).toNat < gs.length) (.need ((0 : Int) ≤ (0 : Int) ∧ (0 : Int) < (↑(List.length (gs.getD ((↑gs.length : Int) - (1 : Int)).toNat qNote.zero)) : Int)) (.need (Int.toNat (0 : Int) < List.length (gs.getD ((↑gs.length : Int) - (1 : Int)).toNat qNote.zero)) (.ite ((List.getD (gs.getD ((↑gs.length : Int) - (1 : Int)).toNat qNote.zero) (Int.toNat (0 : Int)) tNote.zero).fst.fst == (getT tNote xs i).fst.fst && (List.getD (gs.getD ((↑gs.length : Int) - (1 : Int)).toNat qNote.zero) (Int.toNat (0 : Int)) tNote.zero).fst.snd == (getT tNote xs i).fst.snd) (.need ((0 : Int) ≤ (↑gs.length : Int) - (1 : Int) ∧ (↑gs.length : Int) - (1 : Int) < (↑(gs.set ((↑gs.length : Int) - (1 : Int)).toNat (gs.getD ((↑gs.length : Int) - (1 : Int)).toNat qNote.zero)).length : Int)) (.need (((↑gs.length : Int) - (1 : Int)).toNat < (gs.set ((↑gs.length : Int) - (1 : Int)).toNat (gs.getD ((↑gs.length : Int) - (1 : Int)).toNat qNote.zero)).length) (.need (List.length ((gs.set ((↑gs.length : Int) - (1 : Int)).toNat (gs.getD ((↑gs.length : Int) - (1 : Int)).toNat qNote.zero)).getD ((↑gs.length : Int) - (1 : Int)).toNat qNote.zero) + [getT tNote xs i].length ≤ (16777216 : Nat)) (.need ((0 : Int) ≤ (↑gs.length : Int) - (1 : Int) ∧ (↑gs.length : Int) - (1 : Int) < (↑(gs.set ((↑gs.length : Int) - (1 : Int)).toNat (gs.getD ((↑gs.length : Int) - (1 : Int)).toNat qNote.zero)).length : Int)) (.need (((↑gs.length : Int) - (1 : Int)).toNat = ((↑gs.length : Int) - (1 : Int)).toNat) (.need (inK IntKind.i64 (i + (1 : Int))) (.leaf (.normal, ⟨[.int .i64 (ch), .view (tFrac.pair (tFrac.pair (I64.pair (I64.pair I64)))) (xs), .int .i64 (m)], [], [.own (qNote.deep) ((gs.set ((↑gs.length : Int) - (1 : Int)).toNat (gs.getD ((↑gs.length : Int) - (1 : Int)).toNat qNote.zero)).set ((↑gs.length : Int) - (1 : Int)).toNat ((gs.set ((↑gs.length : Int) - (1 : Int)).toNat (gs.getD ((↑gs.length : Int) - (1 : Int)).toNat qNote.zero)).getD ((↑gs.length : Int) - (1 : Int)).toNat qNote.zero ++ [getT tNote xs i])), .int .i64 (i + (1 : Int))], []⟩)))))))) (.need ((gs.set ((↑gs.length : Int) - (1 : Int)).toNat (gs.getD ((↑gs.length : Int) - (1 : Int)).toNat qNote.zero)).length + [[getT tNote xs i]].length ≤ (16777216 : Nat)) (.need (inK IntKind.i64 (i + (1 : Int))) (.leaf (.normal, ⟨[.int .i64 (ch), .view (tFrac.pair (tFrac.pair (I64.pair (I64.pair I64)))) (xs), .int .i64 (m)], [], [.own (qNote.deep) (gs.set ((↑gs.length : Int) - (1 : Int)).toNat (gs.getD ((↑gs.length : Int) - (1 : Int)).toNat qNote.zero) ++ [[getT tNote xs i]]), .int .i64 (i + (1 : Int))], []⟩))))))))) (.need (gs.length + [[getT tNote xs i]].length ≤ (16777216 : Nat)) (.need (inK IntKind.i64 (i + (1 : Int))) (.leaf (.normal, ⟨[.int .i64 (ch), .view (tFrac.pair (tFrac.pair (I64.pair (I64.pair I64)))) (xs), .int .i64 (m)], [], [.own (qNote.deep) (gs ++ [[getT tNote xs i]]), .int .i64 (i + (1 : Int))], []⟩)))))))) (.leaf ((.exit 0), ⟨[.int .i64 (ch), .view (tFrac.pair (tFrac.pair (I64.pair (I64.pair I64)))) (xs), .int .i64 (m)], [], [.own (qNote.deep) (gs), .int .i64 (i)], []⟩)) := by kernel_rfl
  rw [htree]
  clear htree
  replace hp : ((0 ≤ i ∧ i ≤ m) ∧ m = (xs.length : Int) ∧ m ≤ 60 ∧ (gs.length : Int) ≤ i) ∧ ∀ g ∈ gs, gOk i g := hp
  obtain ⟨⟨hi, hm, h60, hgl⟩, hg⟩ := hp
  have hself := fun k => set_self gs k qNote.zero
  simp only [Tree.ok, tyd_inj, packAV, AV.same, AV.same.sameL, encV, encS, enc, inK, Nd.ok, List.headD_cons, List.cons_append, List.nil_append, List.append_nil, true_and, and_true, Bool.true_and, Bool.and_true, loop_next, weakBs_nil, weakBs_cons, weakB_self, weakB_row, weakB_int, weakL_nil, weakL_unk, weakL_guess, isRow_own, isRow_unk, weakL_int, weakL_bool, weakL_str, weakL_own, weakL_view, weakL_nilS, noRow_int, noRow_bool, own_inj, LTree.val, cond_true, cond_false, Prod.mk.injEq, List.cons.injEq, AV.int.injEq, AV.bool.injEq, AV.str.injEq, AV.agg.injEq, ann_chordsOf_0, decide_eq_true_eq, decide_eq_false_iff_not, bne_iff_ne, ne_eq, bne_eq_false_iff_eq, beq_iff_eq, beq_eq_false_iff_ne, Bool.and_eq_true, Bool.and_eq_false_iff, hself, show (0 : Int).toNat = 0 from rfl]
  simp only [getT]
  refine ⟨fun ha => ?_, fun ha => ?_⟩
  · have h1 := chG_at ch xs i.toNat gs (by omega)
    have h2 := addN_ok (ch := ch) (n := xs.getD i.toNat tNote.zero) hi.1 hg
    rw [show (i + 1).toNat = i.toNat + 1 by omega, h1]
    clear h1
    generalize xs.getD i.toNat tNote.zero = n at *
    by_cases hc : (n.2.2.2.2 : Int) = ch
    · by_cases hl : gs = []
      · have e := addN_new (gs := gs) (n := n) hc (.inl hl)
        rw [e] at h2 ⊢
        subst hl
        repeat' first | apply And.intro | intro _
        all_goals first | omega | assumption | trivial | contradiction | exact h2.1 _ ‹_› | (exfalso; simp at *; done) | (simp [Tree.ok, tyd_inj, packAV, AV.same, AV.same.sameL, encV, encS, enc, inK, Nd.ok, List.headD_cons, List.cons_append, List.nil_append, List.append_nil, true_and, and_true, Bool.true_and, Bool.and_true, loop_next, weakBs_nil, weakBs_cons, weakB_self, weakB_row, weakB_int, weakL_nil, weakL_unk, weakL_guess, isRow_own, isRow_unk, weakL_int, weakL_bool, weakL_str, weakL_own, weakL_view, weakL_nilS, noRow_int, noRow_bool, own_inj, LTree.val, cond_true, cond_false, Prod.mk.injEq, List.cons.injEq, AV.int.injEq, AV.bool.injEq, AV.str.injEq, AV.agg.injEq]; done)
      · have hlen : 0 < gs.length := List.length_pos_iff.2 hl
        have hG := gAt_mem hg (gs.length - 1) (by omega)
        have hg1 := hG.lo
        have hg2 := hG.hi
        simp only [show ((gs.length : Int) - 1).toNat = gs.length - 1 by omega]
        by_cases he : (hdN (gAt gs (gs.length - 1))).1.1 = n.1.1 ∧ (hdN (gAt gs (gs.length - 1))).1.2 = n.1.2
        · have e := addN_last (gs := gs) (n := n) hc hl he
          rw [e] at h2 ⊢
          repeat' first | apply And.intro | intro _
          all_goals first | omega | assumption | trivial | contradiction | exact h2.1 _ ‹_› | exact hg1 | exact Int.natCast_pos.2 hg1 | (simp only [List.length_set, List.length_cons, List.length_nil]; omega) | exact Nat.le_trans (Nat.add_le_add_right (show List.length (gAt gs (gs.length - 1)) ≤ 100 by omega) 1) (by omega) | (simp only [List.length_set]; omega) | (exfalso; exact absurd he (by assumption)) | (exfalso; have hx : _ ∨ _ := (by assumption); exact hx.elim (fun h => h he.1) (fun h => h he.2)) | rfl | (simp [Tree.ok, tyd_inj, packAV, AV.same, AV.same.sameL, encV, encS, enc, inK, Nd.ok, List.headD_cons, List.cons_append, List.nil_append, List.append_nil, true_and, and_true, Bool.true_and, Bool.and_true, loop_next, weakBs_nil, weakBs_cons, weakB_self, weakB_row, weakB_int, weakL_nil, weakL_unk, weakL_guess, isRow_own, isRow_unk, weakL_int, weakL_bool, weakL_str, weakL_own, weakL_view, weakL_nilS, noRow_int, noRow_bool, own_inj, LTree.val, cond_true, cond_false, Prod.mk.injEq, List.cons.injEq, AV.int.injEq, AV.bool.injEq, AV.str.injEq, AV.agg.injEq]; done)
        · have e := addN_new (gs := gs) (n := n) hc (.inr he)
          rw [e] at h2 ⊢
          repeat' first | apply And.intro | intro _
          all_goals first | omega | assumption | trivial | contradiction | exact h2.1 _ ‹_› | exact hg1 | exact Int.natCast_pos.2 hg1 | (simp only [List.length_set, List.length_cons, List.length_nil]; omega) | (simp only [List.length_set]; omega) | (exfalso; exact absurd (by assumption) he) | rfl | (simp [Tree.ok, tyd_inj, packAV, AV.same, AV.same.sameL, encV, encS, enc, inK, Nd.ok, List.headD_cons, List.cons_append, List.nil_append, List.append_nil, true_and, and_true, Bool.true_and, Bool.and_true, loop_next, weakBs_nil, weakBs_cons, weakB_self, weakB_row, weakB_int, weakL_nil, weakL_unk, weakL_guess, isRow_own, isRow_unk, weakL_int, weakL_bool, weakL_str, weakL_own, weakL_view, weakL_nilS, noRow_int, noRow_bool, own_inj, LTree.val, cond_true, cond_false, Prod.mk.injEq, List.cons.injEq, AV.int.injEq, AV.bool.injEq, AV.str.injEq, AV.agg.injEq]; done)
    · have e := addN_skip (gs := gs) hc
      rw [e] at h2 ⊢
      repeat' first | apply And.intro | intro _
      all_goals first | omega | assumption | trivial | contradiction | exact h2.1 _ ‹_› | (simp [Tree.ok, tyd_inj, packAV, AV.same, AV.same.sameL, encV, encS, enc, inK, Nd.ok, List.headD_cons, List.cons_append, List.nil_append, List.append_nil, true_and, and_true, Bool.true_and, Bool.and_true, loop_next, weakBs_nil, weakBs_cons, weakB_self, weakB_row, weakB_int, weakL_nil, weakL_unk, weakL_guess, isRow_own, isRow_unk, weakL_int, weakL_bool, weakL_str, weakL_own, weakL_view, weakL_nilS, noRow_int, noRow_bool, own_inj, LTree.val, cond_true, cond_false, Prod.mk.injEq, List.cons.injEq, AV.int.injEq, AV.bool.injEq, AV.str.injEq, AV.agg.injEq]; done)
  · rw [show i.toNat = xs.length by omega, List.drop_length]
    simp [Tree.ok, tyd_inj, packAV, AV.same, AV.same.sameL, encV, encS, enc, inK, Nd.ok, List.headD_cons, List.cons_append, List.nil_append, List.append_nil, true_and, and_true, Bool.true_and, Bool.and_true, loop_next, weakBs_nil, weakBs_cons, weakB_self, weakB_row, weakB_int, weakL_nil, weakL_unk, weakL_guess, isRow_own, isRow_unk, weakL_int, weakL_bool, weakL_str, weakL_own, weakL_view, weakL_nilS, noRow_int, noRow_bool, own_inj, LTree.val, cond_true, cond_false, Prod.mk.injEq, List.cons.injEq, AV.int.injEq, AV.bool.injEq, AV.str.injEq, AV.agg.injEq, chG]
theorem loops_chordsOf : ∀ c, Try.f57.body = some c → LoopsOk Try.prog (addL (firstId (loopAt Try.f57 0)) ann_chordsOf_0 noL) Try.f57.ntmps c := loopsN fun i hi ann h => by
  have hn : loopN Try.f57 = 1 := by kernel_rfl
  rw [hn] at hi
  exact match i, hi, h with
    | 0, _, h => (Option.some.inj ((show (addL (firstId (loopAt Try.f57 0)) ann_chordsOf_0 noL) (firstId (loopAt Try.f57 0)) = some ann_chordsOf_0 from by kernel_rfl).symm.trans h)) ▸ loop_chordsOf_0
set_option maxHeartbeats 1000000 in
theorem sat_chordsOf : Sat Try.prog 57 ct_chordsOf := by
  refine sat_typedF (C := (addC 900000000 ctDeep C_JiB)) (L := (addL (firstId (loopAt Try.f57 0)) ann_chordsOf_0 noL)) (wr := false) mixedOk Try.func57 (addC_ok C_JiB_ok sat_deep) (loops_chordsOf) (fun _ => by first | rfl | (simp [ownsOf, ownsOf.ownsL, enc, encV, encS])) fun x hp => ?_
  obtain ⟨(xs : List tNote.den), (ch : Int), _⟩ := x
  replace hp : xs.length ≤ 60 := hp
  have htree : exFunc Try.prog (addC 900000000 ctDeep C_JiB) false (addL (firstId (loopAt Try.f57 0)) ann_chordsOf_0 noL) Try.f57 (encA [.s qNote, .v (.int .i64)] (xs, ch, ())) true = .need ((((0 : Int) ≤ (0 : Int) ∧ (0 : Int) ≤ (↑xs.length : Int)) ∧ (↑xs.length : Int) = (↑xs.length : Int) ∧ (↑xs.length : Int) ≤ (60 : Int) ∧ (↑(0 : Nat) : Int) ≤ (0 : Int)) ∧ ∀ (g : (((Ty.int IntKind.i64).pair (Ty.int IntKind.i64)).pair (((Ty.int IntKind.i64).pair (Ty.int IntKind.i64)).pair ((Ty.int IntKind.i64).pair ((Ty.int IntKind.i64).pair (Ty.int IntKind.i64))))).seq.deep.den), g ∈ [] → gOk (0 : Int) g) (.leaf [.view (tNote.seq) (chG ch (List.drop (Int.toNat (0 : Int)) xs) [])]) := by kernel_rfl
  refine (congrArg (Tree.ok _) htree).mpr ?_
  clear htree
  simp only [Tree.ok, tyd_inj, packAV, AV.same, AV.same.sameL, encV, encS, enc, inK, Nd.ok, List.headD_cons, List.cons_append, List.nil_append, List.append_nil, true_and, and_true, Bool.true_and, Bool.and_true, show (0 : Int).toNat = 0 from rfl, List.drop_zero]
  repeat' first | apply And.intro | intro _
  all_goals first | omega | assumption | trivial | (simp_all; done)
def C_Ji_1 : FuncId → Option Ct := addC 57 ct_chordsOf C_JiB
theorem C_Ji_1_ok : COk Try.prog C_Ji_1 := addC_ok C_JiB_ok sat_chordsOf
def ann_areChords_0 : LAnn := { sameS := [0, 7, 8], modS := [2, 9], sameH := [], modH := [], base := 900000, nilE := [], nilB := [], G := fun
  | ⟨[.view (.seq (.pair (.pair (.int .i64) (.int .i64)) (.pair (.pair (.int .i64) (.int .i64)) (.pair (.int .i64) (.pair (.int .i64) (.int .i64)))))) gs, .view (.seq (.pair (.pair (.int .i64) (.int .i64)) (.pair (.pair (.int .i64) (.int .i64)) (.pair (.int .i64) (.pair (.int .i64) (.int .i64)))))) hs, .int .i64 m], [], [.bool r, .int .i64 i], []⟩ => some (.p ((gs = hs ∧ (0 ≤ i ∧ i ≤ m) ∧ m = (hs.length : Int) ∧ m ≤ 60) ∧ ∀ g ∈ hs, gOk2 g), .ite (areGo hs (hs.length - i.toNat) i.toNat) (.leaf (.exit 0) [.bool r, .unk] []) (.leaf .ret [.bool false, .unk] []))
  | _ => none }
def ann_areChords_1 : LAnn := { sameS := [0, 3, 4, 7, 8, 9, 14, 15], modS := [2, 16], sameH := [], modH := [], base := 950000, nilE := [], nilB := [], G := fun
  | ⟨[.view (.seq (.pair (.pair (.int .i64) (.int .i64)) (.pair (.pair (.int .i64) (.int .i64)) (.pair (.int .i64) (.pair (.int .i64) (.int .i64)))))) gs, .int .i64 i0, .view (.pair (.pair (.int .i64) (.int .i64)) (.pair (.pair (.int .i64) (.int .i64)) (.pair (.int .i64) (.pair (.int .i64) (.int .i64))))) g, .view (.seq (.pair (.pair (.int .i64) (.int .i64)) (.pair (.pair (.int .i64) (.int .i64)) (.pair (.int .i64) (.pair (.int .i64) (.int .i64)))))) hs, .int .i64 m, .int .i64 i, .view (.pair (.pair (.int .i64) (.int .i64)) (.pair (.pair (.int .i64) (.int .i64)) (.pair (.int .i64) (.pair (.int .i64) (.int .i64))))) ms, .int .i64 q], [], [.bool r, .int .i64 j], []⟩ => some (.p (ms = g ∧ (0 ≤ j ∧ j ≤ q) ∧ q = (ms.length : Int) ∧ q ≤ 60 ∧ 1 ≤ g.length), .ite ((ms.drop j.toNat).all (sameN (hdN g))) (.leaf (.exit 2) [.bool r, .unk] []) (.leaf .ret [.bool false, .unk] []))
  | _ => none }
def ct_areChords : Ct := ctOf [.v qqNote] (fun ((gs : List qNote.den), _) => .p (gs.length ≤ 60 ∧ ∀ g ∈ gs, gOk2 g)) (fun ((gs : List qNote.den), _) => .bool (areB gs))
set_option maxHeartbeats 1000000 in
theorem loop_areChords_1 : LoopSat Try.prog Try.f58.ntmps (loopAt Try.f58 1) ann_areChords_1 := by
  refine loopSat_of (C := C_Ji_1) (L := (addL (firstId (loopAt Try.f58 1)) ann_areChords_1 (addL (firstId (loopAt Try.f58 0)) ann_areChords_0 noL))) (wr := false) mixedOk C_Ji_1_ok (loopsIn0 (by kernel_rfl)) (fun d => match d.same, d.vals with | [_, _, _, _, _, _, _, .int _ q], [_, .int _ j] => (q - j).toNat | _, _ => 0) fun d p t hG hp => ?_
  simp only [ann_areChords_1] at hG
  split at hG
  rotate_left
  · simp at hG
  rename_i gs i0 g hs m i ms q r j
  simp only [Option.some.injEq, Prod.mk.injEq] at hG
  obtain ⟨rfl, rfl⟩ := hG
  have htree : exRound Try.prog C_Ji_1 false (addL (firstId (loopAt Try.f58 1)) ann_areChords_1 (addL (firstId (loopAt Try.f58 0)) ann_areChords_0 noL)) Try.f58.ntmps ann_areChords_1 (loopAt Try.f58 1) ⟨[.view qNote gs, .int .i64 i0, .view tNote g, .view qNote hs, .int .i64 m, .int .i64 i, .view tNote ms, .int .i64 q], [], [.bool r, .int .i64 j], []⟩ = .ite (decide (j < q)) (.need ((0 : Int) ≤ j ∧ j < (↑ms.length : Int)) (.need ((0 : Int) ≤ (0 : Int) ∧ (0 : Int) < (↑g.length : Int)) (.ite (!((getT tNote ms j).snd.fst.fst == (getT tNote g (0 : Int)).snd.fst.fst && (getT tNote ms j).snd.fst.snd == (getT tNote g (0 : Int)).snd.fst.snd)) (.leaf (.ret, ⟨[.view (tNote.seq) (gs), .int .i64 (i0), .view (tFrac.pair (tFrac.pair (I64.pair (I64.pair I64)))) (g), .view (tNote.seq) (hs), .int .i64 (m), .int .i64 (i), .view (tFrac.pair (tFrac.pair (I64.pair (I64.pair I64)))) (ms), .int .i64 (q)], [], [.bool (false), .int .i64 (j)], []⟩)) (.need ((0 : Int) ≤ (0 : Int) ∧ (0 : Int) < (↑g.length : Int)) (.ite ((getT tNote ms j).snd.snd.snd.fst != (getT tNote g (0 : Int)).snd.snd.snd.fst) (.leaf (.ret, ⟨[.view (tNote.seq) (gs), .int .i64 (i0), .view (tFrac.pair (tFrac.pair (I64.pair (I64.pair I64)))) (g), .view (tNote.seq) (hs), .int .i64 (m), .int .i64 (i), .view (tFrac.pair (tFrac.pair (I64.pair (I64.pair I64)))) (ms), .int .i64 (q)], [], [.bool (false), .int .i64 (j)], []⟩)) (.need (inK IntKind.i64 (j + (1 : Int))) (.leaf (.normal, ⟨[.view (tNote.seq) (gs), .int .i64 (i0), .view (tFrac.pair (tFrac.pair (I64.pair (I64.pair I64)))) (g), .view (tNote.seq) (hs), .int .i64 (m), .int .i64 (i), .view (tFrac.pair (tFrac.pair (I64.pair (I64.pair I64)))) (ms), .int .i64 (q)], [], [.bool (r), .int .i64 (j + (1 : Int))], []⟩)))))))) (.leaf ((.exit 2), ⟨[.view (tNote.seq) (gs), .int .i64 (i0), .view (tFrac.pair (tFrac.pair (I64.pair (I64.pair I64)))) (g), .view (tNote.seq) (hs), .int .i64 (m), .int .i64 (i), .view (tFrac.pair (tFrac.pair (I64.pair (I64.pair I64)))) (ms), .int .i64 (q)], [], [.bool (r), .int .i64 (j)], []⟩)) := by kernel_rfl
  rw [htree]
  clear htree
  replace hp : ms = g ∧ (0 ≤ j ∧ j ≤ q) ∧ q = (ms.length : Int) ∧ q ≤ 60 ∧ 1 ≤ g.length := hp
  obtain ⟨he, hj, hq, h60, hl⟩ := hp
  subst he
  simp only [Tree.ok, tyd_inj, packAV, AV.same, AV.same.sameL, encV, encS, enc, inK, Nd.ok, List.headD_cons, List.cons_append, List.nil_append, List.append_nil, true_and, and_true, Bool.true_and, Bool.and_true, loop_next, weakBs_nil, weakBs_cons, weakB_self, weakB_row, weakB_int, weakL_nil, weakL_unk, weakL_guess, isRow_own, isRow_unk, weakL_int, weakL_bool, weakL_str, weakL_own, weakL_view, weakL_nilS, noRow_int, noRow_bool, own_inj, LTree.val, cond_true, cond_false, Prod.mk.injEq, List.cons.injEq, AV.int.injEq, AV.bool.injEq, AV.str.injEq, AV.agg.injEq, ann_areChords_1, decide_eq_true_eq, decide_eq_false_iff_not, bne_iff_ne, ne_eq, bne_eq_false_iff_eq, beq_iff_eq, beq_eq_false_iff_ne, Bool.not_eq_true', Bool.not_eq_false', Bool.and_eq_true, Bool.and_eq_false_iff, show (0 : Int).toNat = 0 from rfl]
  simp only [getT, show (0 : Int).toNat = 0 from rfl]
  refine ⟨fun ha => ?_, fun ha => ?_⟩
  · have h1 : (ms.drop j.toNat).all (sameN (hdN ms)) = (sameN (hdN ms) (ms.getD j.toNat tNote.zero) && (ms.drop (j.toNat + 1)).all (sameN (hdN ms))) := by
      rw [List.drop_eq_getElem_cons (by omega), List.all_cons, getD_lt _ _ _ (show j.toNat < ms.length by omega)]
    rw [show (j + 1).toNat = j.toNat + 1 by omega, h1]
    clear h1
    generalize (ms.drop (j.toNat + 1)).all (sameN (hdN ms)) = bb at *
    have hs := sameN_iff (hdN ms) (ms.getD j.toNat tNote.zero)
    simp only [hdN] at hs ⊢
    generalize sameN (ms.getD 0 tNote.zero) (ms.getD j.toNat tNote.zero) = sb at *
    cases sb <;> cases bb
    all_goals
      repeat' first | apply And.intro | intro _
      all_goals first | omega | assumption | trivial | contradiction | (simp [Tree.ok, tyd_inj, packAV, AV.same, AV.same.sameL, encV, encS, enc, inK, Nd.ok, List.headD_cons, List.cons_append, List.nil_append, List.append_nil, true_and, and_true, Bool.true_and, Bool.and_true, loop_next, weakBs_nil, weakBs_cons, weakB_self, weakB_row, weakB_int, weakL_nil, weakL_unk, weakL_guess, isRow_own, isRow_unk, weakL_int, weakL_bool, weakL_str, weakL_own, weakL_view, weakL_nilS, noRow_int, noRow_bool, own_inj, LTree.val, cond_true, cond_false, Prod.mk.injEq, List.cons.injEq, AV.int.injEq, AV.bool.injEq, AV.str.injEq, AV.agg.injEq]; done) | (exfalso; simp_all; done) | (simp_all; done)
  · rw [show j.toNat = ms.length by omega, List.drop_length]
    simp [Tree.ok, tyd_inj, packAV, AV.same, AV.same.sameL, encV, encS, enc, inK, Nd.ok, List.headD_cons, List.cons_append, List.nil_append, List.append_nil, true_and, and_true, Bool.true_and, Bool.and_true, loop_next, weakBs_nil, weakBs_cons, weakB_self, weakB_row, weakB_int, weakL_nil, weakL_unk, weakL_guess, isRow_own, isRow_unk, weakL_int, weakL_bool, weakL_str, weakL_own, weakL_view, weakL_nilS, noRow_int, noRow_bool, own_inj, LTree.val, cond_true, cond_false, Prod.mk.injEq, List.cons.injEq, AV.int.injEq, AV.bool.injEq, AV.str.injEq, AV.agg.injEq]
set_option maxHeartbeats 1000000 in
theorem loop_areChords_0 : LoopSat Try.prog Try.f58.ntmps (loopAt Try.f58 0) ann_areChords_0 := by
  refine loopSat_of (C := C_Ji_1) (L := (addL (firstId (loopAt Try.f58 1)) ann_areChords_1 (addL (firstId (loopAt Try.f58 0)) ann_areChords_0 noL))) (wr := false) mixedOk C_Ji_1_ok (loopsIn1 (b := loopAt Try.f58 1) (by kernel_rfl) (fun ann h => (Option.some.inj ((show (addL (firstId (loopAt Try.f58 1)) ann_areChords_1 (addL (firstId (loopAt Try.f58 0)) ann_areChords_0 noL)) (firstId (loopAt Try.f58 1)) = some ann_areChords_1 from by kernel_rfl).symm.trans h)) ▸ loop_areChords_1)) (fun d => match d.same, d.vals with | [_, _, .int _ m], [_, .int _ i] => (m - i).toNat | _, _ => 0) fun d p t hG hp => ?_
  simp only [ann_areChords_0] at hG
  split at hG
  rotate_left
  · simp at hG
  rename_i gs hs m r i
  simp only [Option.some.injEq, Prod.mk.injEq] at hG
  obtain ⟨rfl, rfl⟩ := hG
  have htree : exRound Try.prog C_Ji_1 false (addL (firstId (loopAt Try.f58 1)) ann_areChords_1 (addL (firstId (loopAt Try.f58 0)) ann_areChords_0 noL)) Try.f58.ntmps ann_areChords_0 (loopAt Try.f58 0) ⟨[.view qNote gs, .view qNote hs, .int .i64 m], [], [.bool r, .int .i64 i], []⟩ = .ite (decide (i < m)) (.need ((0 : Int) ≤ i ∧ i < (↑hs.length : Int)) (.need (getT qNote hs i = getT qNote hs i ∧ ((0 : Int) ≤ (0 : Int) ∧ (0 : Int) ≤ (↑(List.length (getT qNote hs i)) : Int)) ∧ (↑(List.length (getT qNote hs i)) : Int) = (↑(List.length (getT qNote hs i)) : Int) ∧ (↑(List.length (getT qNote hs i)) : Int) ≤ (60 : Int) ∧ (1 : Nat) ≤ List.length (getT qNote hs i)) (.ite ((List.drop (Int.toNat (0 : Int)) (getT qNote hs i)).all (sameN (hdN (getT qNote hs i)))) (.ite (decide ((6 : Int) < (↑(List.length (getT qNote hs i)) : Int))) (.leaf (.ret, ⟨[.view (tNote.seq) (gs), .view (tNote.seq) (hs), .int .i64 (m)], [], [.bool (false), .int .i64 (i)], []⟩)) (.ite (decide ((0 : Int) < i)) (.need ((0 : Int) ≤ (0 : Int) ∧ (0 : Int) < (↑(List.length (getT qNote hs i)) : Int)) (.need (inK IntKind.i64 (i - (1 : Int))) (.need ((0 : Int) ≤ i - (1 : Int) ∧ i - (1 : Int) < (↑gs.length : Int)) (.need ((0 : Int) ≤ (0 : Int) ∧ (0 : Int) < (↑(List.length (getT qNote gs (i - (1 : Int)))) : Int)) (.need ((((1 : Int) ≤ (getT tNote (getT qNote hs i) (0 : Int)).fst.snd ∧ (getT tNote (getT qNote hs i) (0 : Int)).fst.snd ≤ (1000000 : Int)) ∧ (-1000000000 : Int) ≤ (getT tNote (getT qNote hs i) (0 : Int)).fst.fst ∧ (getT tNote (getT qNote hs i) (0 : Int)).fst.fst ≤ (1000000000 : Int)) ∧ ((1 : Int) ≤ (endN (getT tNote (getT qNote gs (i - (1 : Int))) (0 : Int))).snd ∧ (endN (getT tNote (getT qNote gs (i - (1 : Int))) (0 : Int))).snd ≤ (1000000 : Int)) ∧ (-1000000000 : Int) ≤ (endN (getT tNote (getT qNote gs (i - (1 : Int))) (0 : Int))).fst ∧ (endN (getT tNote (getT qNote gs (i - (1 : Int))) (0 : Int))).fst ≤ (1000000000 : Int)) (.ite (decide (cmpF (getT tNote (getT qNote hs i) (0 : Int)).fst.fst (getT tNote (getT qNote hs i) (0 : Int)).fst.snd (endN (getT tNote (getT qNote gs (i - (1 : Int))) (0 : Int))).fst (endN (getT tNote (getT qNote gs (i - (1 : Int))) (0 : Int))).snd < (0 : Int))) (.leaf (.ret, ⟨[.view (tNote.seq) (gs), .view (tNote.seq) (hs), .int .i64 (m)], [], [.bool (false), .int .i64 (i)], []⟩)) (.need (inK IntKind.i64 (i + (1 : Int))) (.leaf (.normal, ⟨[.view (tNote.seq) (gs), .view (tNote.seq) (hs), .int .i64 (m)], [], [.bool (r), .int .i64 (i + (1 : Int))], []⟩))))))))) (.need (inK IntKind.i64 (i + (1 : Int))) (.leaf (.normal, ⟨[.view (tNote.seq) (gs), .view (tNote.seq) (hs), .int .i64 (m)], [], [.bool (r), .int .i64 (i + (1 : Int))], []⟩))))) (.leaf (.ret, ⟨[.view (tNote.seq) (gs), .view (tNote.seq) (hs), .int .i64 (m)], [], [.bool (false), .int .i64 (i)], []⟩))))) (.leaf ((.exit 0), ⟨[.view (tNote.seq) (gs), .view (tNote.seq) (hs), .int .i64 (m)], [], [.bool (r), .int .i64 (i)], []⟩)) := by kernel_rfl
  rw [htree]
  clear htree
  replace hp : (gs = hs ∧ (0 ≤ i ∧ i ≤ m) ∧ m = (hs.length : Int) ∧ m ≤ 60) ∧ ∀ g ∈ hs, gOk2 g := hp
  obtain ⟨⟨he, hi, hm, h60⟩, hg⟩ := hp
  subst he
  simp only [Tree.ok, tyd_inj, packAV, AV.same, AV.same.sameL, encV, encS, enc, inK, Nd.ok, List.headD_cons, List.cons_append, List.nil_append, List.append_nil, true_and, and_true, Bool.true_and, Bool.and_true, loop_next, weakBs_nil, weakBs_cons, weakB_self, weakB_row, weakB_int, weakL_nil, weakL_unk, weakL_guess, isRow_own, isRow_unk, weakL_int, weakL_bool, weakL_str, weakL_own, weakL_view, weakL_nilS, noRow_int, noRow_bool, own_inj, LTree.val, cond_true, cond_false, Prod.mk.injEq, List.cons.injEq, AV.int.injEq, AV.bool.injEq, AV.str.injEq, AV.agg.injEq, ann_areChords_0, decide_eq_true_eq, decide_eq_false_iff_not, bne_iff_ne, ne_eq, bne_eq_false_iff_eq, beq_iff_eq, beq_eq_false_iff_ne, show (0 : Int).toNat = 0 from rfl, List.drop_zero]
  simp only [getT, show (0 : Int).toNat = 0 from rfl]
  refine ⟨fun ha => ?_, fun ha => ?_⟩
  · have h1 := areGo_step gs i.toNat (by omega)
    have hG := gAt_mem hg i.toNat (by omega)
    have hP := gAt_mem hg (i.toNat - 1) (by omega)
    rw [show (i + 1).toNat = i.toNat + 1 by omega, h1]
    clear h1
    simp only [show (i - 1).toNat = i.toNat - 1 by omega]
    simp only [gAt, okCh, hdN] at hG hP ⊢
    obtain ⟨G, hGe⟩ : ∃ G : List tNote.den, gs.getD i.toNat qNote.zero = G := ⟨_, rfl⟩
    obtain ⟨P, hPe⟩ : ∃ P : List tNote.den, gs.getD (i.toNat - 1) qNote.zero = P := ⟨_, rfl⟩
    simp only [hGe, hPe] at hG hP ⊢
    have b1 := hG.bd
    have b2 := hP.ebd
    have l1 := hG.lo
    have l2 := hP.lo
    have l3 := hG.hi
    simp only [hdN] at b1 b2
    generalize areGo gs (gs.length - (i.toNat + 1)) (i.toNat + 1) = bb at *
    generalize cmpF (G.getD 0 tNote.zero).1.1 (G.getD 0 tNote.zero).1.2 (endN (P.getD 0 tNote.zero)).1 (endN (P.getD 0 tNote.zero)).2 = c at *
    generalize G.all (sameN (G.getD 0 tNote.zero)) = ca at *
    have e6 : (G.length ≤ 6) = ¬ (6 < (G.length : Int)) := propext (by omega)
    have e0 : (i.toNat = 0) = ¬ (0 < i) := propext (by omega)
    have ec : (0 ≤ c) = ¬ (c < 0) := propext (by omega)
    cases ca <;> cases bb <;> by_cases h6 : 6 < (G.length : Int) <;> by_cases h0 : 0 < i <;> by_cases hc : c < 0
    all_goals
      simp only [e6, e0, ec, h6, h0, hc, not_true, not_false_eq_true, decide_true, decide_false, Bool.false_and, Bool.true_and, Bool.and_false, Bool.and_true, Bool.or_true, Bool.or_false, Bool.true_or, Bool.false_or]
      repeat' first | apply And.intro | intro _
      all_goals first | omega | assumption | trivial | contradiction | exact hg _ ‹_› | exact b1.1.1 | exact b1.1.2 | exact b1.2.1 | exact b1.2.2 | exact b2.1.1 | exact b2.1.2 | exact b2.2.1 | exact b2.2.2 | (simp [Tree.ok, tyd_inj, packAV, AV.same, AV.same.sameL, encV, encS, enc, inK, Nd.ok, List.headD_cons, List.cons_append, List.nil_append, List.append_nil, true_and, and_true, Bool.true_and, Bool.and_true, loop_next, weakBs_nil, weakBs_cons, weakB_self, weakB_row, weakB_int, weakL_nil, weakL_unk, weakL_guess, isRow_own, isRow_unk, weakL_int, weakL_bool, weakL_str, weakL_own, weakL_view, weakL_nilS, noRow_int, noRow_bool, own_inj, LTree.val, cond_true, cond_false, Prod.mk.injEq, List.cons.injEq, AV.int.injEq, AV.bool.injEq, AV.str.injEq, AV.agg.injEq]; done) | (simp_all; done)
  · rw [show gs.length - i.toNat = 0 by omega]
    simp [Tree.ok, tyd_inj, packAV, AV.same, AV.same.sameL, encV, encS, enc, inK, Nd.ok, List.headD_cons, List.cons_append, List.nil_append, List.append_nil, true_and, and_true, Bool.true_and, Bool.and_true, loop_next, weakBs_nil, weakBs_cons, weakB_self, weakB_row, weakB_int, weakL_nil, weakL_unk, weakL_guess, isRow_own, isRow_unk, weakL_int, weakL_bool, weakL_str, weakL_own, weakL_view, weakL_nilS, noRow_int, noRow_bool, own_inj, LTree.val, cond_true, cond_false, Prod.mk.injEq, List.cons.injEq, AV.int.injEq, AV.bool.injEq, AV.str.injEq, AV.agg.injEq, areGo]
theorem loops_areChords : ∀ c, Try.f58.body = some c → LoopsOk Try.prog (addL (firstId (loopAt Try.f58 1)) ann_areChords_1 (addL (firstId (loopAt Try.f58 0)) ann_areChords_0 noL)) Try.f58.ntmps c := loopsN fun i hi ann h => by
  have hn : loopN Try.f58 = 2 := by kernel_rfl
  rw [hn] at hi
  exact match i, hi, h with
    | 0, _, h => (Option.some.inj ((show (addL (firstId (loopAt Try.f58 1)) ann_areChords_1 (addL (firstId (loopAt Try.f58 0)) ann_areChords_0 noL)) (firstId (loopAt Try.f58 0)) = some ann_areChords_0 from by kernel_rfl).symm.trans h)) ▸ loop_areChords_0
    | 1, _, h => (Option.some.inj ((show (addL (firstId (loopAt Try.f58 1)) ann_areChords_1 (addL (firstId (loopAt Try.f58 0)) ann_areChords_0 noL)) (firstId (loopAt Try.f58 1)) = some ann_areChords_1 from by kernel_rfl).symm.trans h)) ▸ loop_areChords_1
set_option maxHeartbeats 1000000 in
theorem sat_areChords : Sat Try.prog 58 ct_areChords := by
  refine sat_typed (C := C_Ji_1) (L := (addL (firstId (loopAt Try.f58 1)) ann_areChords_1 (addL (firstId (loopAt Try.f58 0)) ann_areChords_0 noL))) (wr := false) mixedOk Try.func58 C_Ji_1_ok (loops_areChords) (fun _ => by first | rfl | (simp [ownsOf, ownsOf.ownsL, enc, encV, encS])) fun x hp => ?_
  obtain ⟨(gs : List qNote.den), _⟩ := x
  replace hp : gs.length ≤ 60 ∧ ∀ g ∈ gs, gOk2 g := hp
  have htree : exFunc Try.prog C_Ji_1 false (addL (firstId (loopAt Try.f58 1)) ann_areChords_1 (addL (firstId (loopAt Try.f58 0)) ann_areChords_0 noL)) Try.f58 (encA [.v qqNote] (gs, ())) = .need ((gs = gs ∧ ((0 : Int) ≤ (0 : Int) ∧ (0 : Int) ≤ (↑gs.length : Int)) ∧ (↑gs.length : Int) = (↑gs.length : Int) ∧ (↑gs.length : Int) ≤ (60 : Int)) ∧ ∀ (g : (((Ty.int IntKind.i64).pair (Ty.int IntKind.i64)).pair (((Ty.int IntKind.i64).pair (Ty.int IntKind.i64)).pair ((Ty.int IntKind.i64).pair ((Ty.int IntKind.i64).pair (Ty.int IntKind.i64))))).seq.den), g ∈ gs → gOk2 g) (.ite (areGo gs (gs.length - Int.toNat (0 : Int)) (Int.toNat (0 : Int))) (.leaf [.lit true]) (.leaf [.bool (false)])) := by kernel_rfl
  refine (congrArg (Tree.ok _) htree).mpr ?_
  clear htree
  simp only [Tree.ok, tyd_inj, packAV, AV.same, AV.same.sameL, encV, encS, enc, inK, Nd.ok, List.headD_cons, List.cons_append, List.nil_append, List.append_nil, true_and, and_true, Bool.true_and, Bool.and_true, areB, show (0 : Int).toNat = 0 from rfl, Nat.sub_zero]
  cases areGo gs gs.length 0
  all_goals
    repeat' first | apply And.intro | intro _
    all_goals first | omega | assumption | trivial | exact hp.2 _ ‹_› | (have := hp.1; omega) | (simp_all; done)
def C_Ji_2 : FuncId → Option Ct := addC 58 ct_areChords C_Ji_1
theorem C_Ji_2_ok : COk Try.prog C_Ji_2 := addC_ok C_Ji_1_ok sat_areChords

def C_Ji : FuncId → Option Ct := C_Ji_2
theorem C_Ji_ok : COk Try.prog C_Ji := C_Ji_2_ok
end Go.Proofs.Ytemlpimibhijoaa
