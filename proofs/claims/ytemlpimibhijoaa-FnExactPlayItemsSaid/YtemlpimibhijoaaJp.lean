/- Contracts: items played as scores, of the program and the reference; the law. Conditions: as each says. -/
import Derived.Test.YtemlpimibhijoaaJm
set_option linter.unusedSimpArgs false
set_option linter.unusedVariables false
namespace Go.Proofs.Ytemlpimibhijoaa
open Go.RowKit Sx
set_option maxRecDepth 100000
set_option maxHeartbeats 1000000
def ntI (a b u v lo ch : Int) (p : tPitch.den) : tNote.den := ((a, b), (u, v), keyP p, lo, ch)
def playGo (ch : Int) : Its → Int → Int → Int → List tNote.den × Bool
  | [], _, _, _ => ([], true)
  | y :: t, a, b, lo => if (y.1 : Int) = 3 then playGo ch t a b y.2.2.2.1 else
      if (y.2.1 : List tPitch.den).all (fun p => noteF (ntI a b y.2.2.1.1 y.2.2.1.2 lo ch p)) = true then
        (if (addF a b y.2.2.1.1 y.2.2.1.2).2 = 0 then ((y.2.1 : List tPitch.den).map (ntI a b y.2.2.1.1 y.2.2.1.2 lo ch) ++ (playGo ch t (addF a b y.2.2.1.1 y.2.2.1.2).1.1 (addF a b y.2.2.1.1 y.2.2.1.2).1.2 lo).1, (playGo ch t (addF a b y.2.2.1.1 y.2.2.1.2).1.1 (addF a b y.2.2.1.1 y.2.2.1.2).1.2 lo).2) else ([], false))
      else ([], false)
theorem playGo_at (ch : Int) (l : Its) (i : Nat) (h : i < l.length) (a b lo : Int) : playGo ch (l.drop i) a b lo = playGo ch (l.getD i tItem.zero :: l.drop (i + 1)) a b lo := by
  rw [List.drop_eq_getElem_cons h, getD_lt _ _ _ h]
theorem playGo_len (ch : Int) : ∀ (l : Its) (a b lo : Int), (∀ y ∈ l, gdI y) → (playGo ch l a b lo).1.length ≤ 6 * l.length
  | [], _, _, _, _ => by simp [playGo]
  | y :: t, a, b, lo, h => by
    have h6 : (y.2.1 : List tPitch.den).length ≤ 6 := (h y List.mem_cons_self).4
    have ht := fun a b lo => playGo_len ch t a b lo fun z hz => h z (List.mem_cons_of_mem _ hz)
    unfold playGo
    split
    · have := ht a b y.2.2.2.1; simp only [List.length_cons]; omega
    · split
      · split
        · have := ht (addF a b y.2.2.1.1 y.2.2.1.2).1.1 (addF a b y.2.2.1.1 y.2.2.1.2).1.2 lo
          simp only [List.length_append, List.length_map, List.length_cons]; omega
        · simp
      · simp
def playC (f : Its × Int) (ch : Int) : List tNote.den × Int := if f.2 = 0 then (if (playGo ch f.1 0 1 80).2 = true then (if 60 < ((playGo ch f.1 0 1 80).1.length : Int) then ([], 5) else ((playGo ch f.1 0 1 80).1, 0)) else ([], 2)) else ([], f.2)
theorem weakB_go (t : Ty) (xs : List t.den) : weakB [.own t xs] [.guess True] = True := by
  simp [weakB, rowEntry, weakL_guess, weakL_nil, isRow_own]
theorem weakB_gu : weakB [.unk] [.guess True] = True := by
  simp [weakB, rowEntry, weakL_guess, weakL_nil, isRow_unk]
theorem key_pre {S A O : Int} (h : okP S A O = true) : (0 ≤ S ∧ S ≤ 6) ∧ (-1000 ≤ A ∧ A ≤ 1000) ∧ (-1000 ≤ O ∧ O ≤ 1000) := by
  have := okP_bd h; omega
def playA (l : Its) (ch : Int) : List tNote.den × Int := if okItems l = true then (if inB ch 0 15 = true then playC (flatC l) ch else ([], 2)) else ([], 1)
def ann_playItems_0 : LAnn := { sameS := [1, 4, 8, 9, 31, 32], modS := [5, 7, 10, 33], sameH := [22], modH := [4, 8, 9], base := 900000, nilE := [], nilB := [⟨8, 0, 800000, tNote⟩], G := fun
  | ⟨[.int .i64 ch, .ptr 4 0, .ptr 8 0, .ptr 9 0, .row 22, .int .i64 n], [.row (.pair (.int .i64) (.pair (.seq (.pair (.int .i64) (.pair (.int .i64) (.int .i64)))) (.pair (.pair (.int .i64) (.int .i64)) (.pair (.int .i64) (.pair (.pair (.int .i64) (.int .i64)) (.int .i64)))))) fs], [.int .i64 c, .int .i64 d, .int .i64 lo, .int .i64 k], [[.nilS], [.own (.pair (.pair (.int .i64) (.int .i64)) (.pair (.pair (.int .i64) (.int .i64)) (.pair (.int .i64) (.pair (.int .i64) (.int .i64))))) ns], [.int .i64 a, .int .i64 b]]⟩ => some (.p (((0 ≤ k ∧ k ≤ n) ∧ n = (fs.length : Int) ∧ n ≤ 80 ∧ (ns.length : Int) ≤ 6 * k) ∧ okF a b = true ∧ ∀ y ∈ fs, gdI y), .ite ((playGo ch (fs.drop k.toNat) a b lo).2) (.leaf (.exit 0) [.int .i64 c, .unk, .unk, .unk] [[.nilS], [.own tNote (ns ++ (playGo ch (fs.drop k.toNat) a b lo).1)], [.unk, .unk]]) (.leaf .ret [.int .i64 2, .unk, .unk, .unk] [[.nilS], [.guess True], [.unk, .unk]]))
  | _ => none }
def ann_playItems_1 : LAnn := { sameS := [1, 4, 8, 9, 10, 12, 31, 32, 33, 43, 44], modS := [5, 45], sameH := [9, 12, 22], modH := [4, 8], base := 950000, nilE := [], nilB := [], G := fun
  | ⟨[.int .i64 ch, .ptr 4 0, .ptr 8 0, .ptr 9 0, .int .i64 lo, .ptr 12 0, .row 22, .int .i64 n, .int .i64 k, .view (.pair (.int .i64) (.pair (.int .i64) (.int .i64))) qs, .int .i64 m], [.box [.int .i64 a, .int .i64 b], .box [.int .i64 x1, .view (.pair (.int .i64) (.pair (.int .i64) (.int .i64))) ps, .int .i64 u, .int .i64 v, .int .i64 z1, .int .i64 z2, .int .i64 z3, .int .i64 z4], .row (.pair (.int .i64) (.pair (.seq (.pair (.int .i64) (.pair (.int .i64) (.int .i64)))) (.pair (.pair (.int .i64) (.int .i64)) (.pair (.int .i64) (.pair (.pair (.int .i64) (.int .i64)) (.int .i64)))))) fs], [.int .i64 c, .int .i64 j], [[.nilS], [.own (.pair (.pair (.int .i64) (.int .i64)) (.pair (.pair (.int .i64) (.int .i64)) (.pair (.int .i64) (.pair (.int .i64) (.int .i64))))) ns]]⟩ => some (.p (((0 ≤ j ∧ j ≤ m) ∧ m = (qs.length : Int) ∧ m ≤ 6 ∧ (ns.length : Int) + (m - j) ≤ 1000) ∧ ∀ p ∈ qs, okPt p = true), .ite ((qs.drop j.toNat).all (fun p => noteF (ntI a b u v lo ch p))) (.leaf (.exit 2) [.int .i64 c, .unk] [[.nilS], [.own tNote (ns ++ (qs.drop j.toNat).map (ntI a b u v lo ch))]]) (.leaf .ret [.int .i64 2, .unk] [[.nilS], [.guess True]]))
  | _ => none }
def ct_playItems : Ct := ctOf [.v qItem, .v (.int .i64)] (fun ((l : List tItem.den), (ch : Int), _) => .p (l.length ≤ 80 ∧ ∃ d : Int, 0 ≤ d ∧ d ≤ 3 ∧ vl l d)) (fun ((l : List tItem.den), (ch : Int), _) => .tup [.agg [.own tNote (if inB ch 0 15 = true then playC (flatC l) ch else ([], 2)).1], .int .i64 (if inB ch 0 15 = true then playC (flatC l) ch else ([], 2)).2])
set_option maxHeartbeats 1000000 in
theorem loop_playItems_1 : LoopSat Try.prog Try.f33.ntmps (loopAt Try.f33 1) ann_playItems_1 := by
  refine loopSat_of (C := C_Jm) (L := (addL (firstId (loopAt Try.f33 1)) ann_playItems_1 (addL (firstId (loopAt Try.f33 0)) ann_playItems_0 noL))) (wr := false) mixedOk C_Jm_ok (loopsIn0 (by kernel_rfl)) (fun d => match d.same, d.vals with | [_, _, _, _, _, _, _, _, _, _, .int _ m], [_, .int _ j] => (m - j).toNat | _, _ => 0) fun d p t hG hp => ?_
  simp only [ann_playItems_1] at hG
  split at hG
  rotate_left
  · simp at hG
  rename_i ch lo n k qs m a b x1 ps u v z1 z2 z3 z4 fs c j ns
  simp only [Option.some.injEq, Prod.mk.injEq] at hG
  obtain ⟨rfl, rfl⟩ := hG
  have htree : exRound Try.prog C_Jm false (addL (firstId (loopAt Try.f33 1)) ann_playItems_1 (addL (firstId (loopAt Try.f33 0)) ann_playItems_0 noL)) Try.f33.ntmps ann_playItems_1 (loopAt Try.f33 1) ⟨[.int .i64 ch, .ptr 4 0, .ptr 8 0, .ptr 9 0, .int .i64 lo, .ptr 12 0, .row 22, .int .i64 n, .int .i64 k, .view tPitch qs, .int .i64 m], [.box [.int .i64 a, .int .i64 b], .box [.int .i64 x1, .view tPitch ps, .int .i64 u, .int .i64 v, .int .i64 z1, .int .i64 z2, .int .i64 z3, .int .i64 z4], .row tItem fs], [.int .i64 c, .int .i64 j], [[.nilS], [.own tNote ns]]⟩ = .ite (decide (j < m)) (.need ((0 : Int) ≤ j ∧ j < (↑qs.length : Int)) (.need (((0 : Int) ≤ (getT tPitch qs j).fst ∧ (getT tPitch qs j).fst ≤ (6 : Int)) ∧ ((-1000 : Int) ≤ (getT tPitch qs j).snd.fst ∧ (getT tPitch qs j).snd.fst ≤ (1000 : Int)) ∧ (-1000 : Int) ≤ (getT tPitch qs j).snd.snd ∧ (getT tPitch qs j).snd.snd ≤ (1000 : Int)) (.ite (!noteF ((a, b), (u, v), keyF (getT tPitch qs j).fst (getT tPitch qs j).snd.fst (getT tPitch qs j).snd.snd, lo, ch)) (.leaf (.ret, ⟨[.int .i64 (ch), .ptr 4 0, .ptr 8 0, .ptr 9 0, .int .i64 (lo), .ptr 12 0, .row 22, .int .i64 (n), .int .i64 (k), .view (I64.pair (I64.pair I64)) (qs), .int .i64 (m)], [.box [.int .i64 (a), .int .i64 (b)], .box [.int .i64 (x1), .view (I64.pair (I64.pair I64)) (ps), .int .i64 (u), .int .i64 (v), .int .i64 (z1), .int .i64 (z2), .int .i64 (z3), .int .i64 (z4)], .row (I64.pair (tPitch.seq.pair (tFrac.pair (I64.pair (tIv.pair I64))))) (fs)], [.int .i64 ((2 : Int)), .int .i64 (j)], [[.nilS], [.own (tFrac.pair (tFrac.pair (I64.pair (I64.pair I64)))) (ns)]]⟩)) (.need (ns.length + [((a, b), (u, v), keyF (getT tPitch qs j).fst (getT tPitch qs j).snd.fst (getT tPitch qs j).snd.snd, lo, ch)].length ≤ (16777216 : Nat)) (.need (inK IntKind.i64 (j + (1 : Int))) (.leaf (.normal, ⟨[.int .i64 (ch), .ptr 4 0, .ptr 8 0, .ptr 9 0, .int .i64 (lo), .ptr 12 0, .row 22, .int .i64 (n), .int .i64 (k), .view (I64.pair (I64.pair I64)) (qs), .int .i64 (m)], [.box [.int .i64 (a), .int .i64 (b)], .box [.int .i64 (x1), .view (I64.pair (I64.pair I64)) (ps), .int .i64 (u), .int .i64 (v), .int .i64 (z1), .int .i64 (z2), .int .i64 (z3), .int .i64 (z4)], .row (I64.pair (tPitch.seq.pair (tFrac.pair (I64.pair (tIv.pair I64))))) (fs)], [.int .i64 (c), .int .i64 (j + (1 : Int))], [[.nilS], [.own (tFrac.pair (tFrac.pair (I64.pair (I64.pair I64)))) (ns ++ [((a, b), (u, v), keyF (getT tPitch qs j).fst (getT tPitch qs j).snd.fst (getT tPitch qs j).snd.snd, lo, ch)])]]⟩))))))) (.leaf ((.exit 2), ⟨[.int .i64 (ch), .ptr 4 0, .ptr 8 0, .ptr 9 0, .int .i64 (lo), .ptr 12 0, .row 22, .int .i64 (n), .int .i64 (k), .view (I64.pair (I64.pair I64)) (qs), .int .i64 (m)], [.box [.int .i64 (a), .int .i64 (b)], .box [.int .i64 (x1), .view (I64.pair (I64.pair I64)) (ps), .int .i64 (u), .int .i64 (v), .int .i64 (z1), .int .i64 (z2), .int .i64 (z3), .int .i64 (z4)], .row (I64.pair (tPitch.seq.pair (tFrac.pair (I64.pair (tIv.pair I64))))) (fs)], [.int .i64 (c), .int .i64 (j)], [[.nilS], [.own (tFrac.pair (tFrac.pair (I64.pair (I64.pair I64)))) (ns)]]⟩)) := by kernel_rfl
  rw [htree]
  clear htree
  replace hp : ((0 ≤ j ∧ j ≤ m) ∧ m = (qs.length : Int) ∧ m ≤ 6 ∧ (ns.length : Int) + (m - j) ≤ 1000) ∧ ∀ p ∈ qs, okPt p = true := hp
  obtain ⟨⟨hj, hm, h6, hns⟩, hq⟩ := hp
  simp only [Tree.ok, tyd_inj, packAV, AV.same, AV.same.sameL, encV, encS, enc, inK, Nd.ok, List.headD_cons, List.cons_append, List.nil_append, List.append_nil, true_and, and_true, Bool.true_and, Bool.and_true, loop_next, weakBs_nil, weakBs_cons, weakB_self, weakB_row, weakB_int, weakL_nil, weakL_unk, weakL_guess, isRow_own, isRow_unk, weakL_int, weakL_bool, weakL_str, weakL_own, weakL_view, weakL_nilS, noRow_int, noRow_bool, own_inj, LTree.val, cond_true, cond_false, Prod.mk.injEq, List.cons.injEq, AV.int.injEq, AV.bool.injEq, AV.str.injEq, AV.agg.injEq, ann_playItems_1, decide_eq_true_eq, decide_eq_false_iff_not, bne_iff_ne, ne_eq, bne_eq_false_iff_eq, beq_iff_eq, beq_eq_false_iff_ne, Bool.not_eq_true', Bool.not_eq_false']
  simp only [getT]
  refine ⟨fun ha => ?_, fun ha => ?_⟩
  · have h1 := all_at (fun p => noteF (ntI a b u v lo ch p)) qs tPitch.zero j.toNat (by omega)
    have h2 := map_at (ntI a b u v lo ch) qs tPitch.zero j.toNat (by omega)
    have hy := mem_at hq j.toNat tPitch.zero (by omega)
    rw [show (j + 1).toNat = j.toNat + 1 by omega, h1, h2]
    clear h1 h2
    obtain ⟨S, A, O, he⟩ := p3 (qs.getD j.toNat tPitch.zero)
    simp only [he] at *
    have hb := key_pre hy
    simp only [ntI, keyP] at *
    generalize (qs.drop (j.toNat + 1)).all (fun p => noteF ((a, b), (u, v), keyF p.1 p.2.1 p.2.2, lo, ch)) = bb at *
    cases hc : noteF ((a, b), (u, v), keyF S A O, lo, ch)
    all_goals
      simp only [hc, Bool.false_and, Bool.true_and]
      cases bb
      all_goals
        repeat' first | apply And.intro | intro _
        all_goals first | omega | (simp only [List.length_append, List.length_map, List.length_cons, List.length_nil]; omega) | assumption | trivial | contradiction | exact hq _ ‹_› | exact hb.1.1 | exact hb.1.2 | exact hb.2.1.1 | exact hb.2.1.2 | exact hb.2.2.1 | exact hb.2.2.2 | (simp [Tree.ok, tyd_inj, packAV, AV.same, AV.same.sameL, encV, encS, enc, inK, Nd.ok, List.headD_cons, List.cons_append, List.nil_append, List.append_nil, true_and, and_true, Bool.true_and, Bool.and_true, loop_next, weakBs_nil, weakBs_cons, weakB_self, weakB_row, weakB_int, weakL_nil, weakL_unk, weakL_guess, isRow_own, isRow_unk, weakL_int, weakL_bool, weakL_str, weakL_own, weakL_view, weakL_nilS, noRow_int, noRow_bool, own_inj, LTree.val, cond_true, cond_false, Prod.mk.injEq, List.cons.injEq, AV.int.injEq, AV.bool.injEq, AV.str.injEq, AV.agg.injEq, weakB_go, weakB_gu]; done) | (simp_all; done) | skip
  · rw [show j.toNat = qs.length by omega, List.drop_length]
    simp [Tree.ok, tyd_inj, packAV, AV.same, AV.same.sameL, encV, encS, enc, inK, Nd.ok, List.headD_cons, List.cons_append, List.nil_append, List.append_nil, true_and, and_true, Bool.true_and, Bool.and_true, loop_next, weakBs_nil, weakBs_cons, weakB_self, weakB_row, weakB_int, weakL_nil, weakL_unk, weakL_guess, isRow_own, isRow_unk, weakL_int, weakL_bool, weakL_str, weakL_own, weakL_view, weakL_nilS, noRow_int, noRow_bool, own_inj, LTree.val, cond_true, cond_false, Prod.mk.injEq, List.cons.injEq, AV.int.injEq, AV.bool.injEq, AV.str.injEq, AV.agg.injEq]
set_option maxHeartbeats 1000000 in
theorem loop_playItems_0 : LoopSat Try.prog Try.f33.ntmps (loopAt Try.f33 0) ann_playItems_0 := by
  refine loopSat_of (C := C_Jm) (L := (addL (firstId (loopAt Try.f33 1)) ann_playItems_1 (addL (firstId (loopAt Try.f33 0)) ann_playItems_0 noL))) (wr := false) mixedOk C_Jm_ok (loopsIn1 (b := loopAt Try.f33 1) (by kernel_rfl) (fun ann h => (Option.some.inj ((show (addL (firstId (loopAt Try.f33 1)) ann_playItems_1 (addL (firstId (loopAt Try.f33 0)) ann_playItems_0 noL)) (firstId (loopAt Try.f33 1)) = some ann_playItems_1 from by kernel_rfl).symm.trans h)) ▸ loop_playItems_1)) (fun d => match d.same, d.vals with | [_, _, _, _, _, .int _ n], [_, _, _, .int _ k] => (n - k).toNat | _, _ => 0) fun d p t hG hp => ?_
  simp only [ann_playItems_0] at hG
  split at hG
  rotate_left
  · simp at hG
  rename_i ch n fs c d lo k ns a b
  simp only [Option.some.injEq, Prod.mk.injEq] at hG
  obtain ⟨rfl, rfl⟩ := hG
  have htree : exRound Try.prog C_Jm false (addL (firstId (loopAt Try.f33 1)) ann_playItems_1 (addL (firstId (loopAt Try.f33 0)) ann_playItems_0 noL)) Try.f33.ntmps ann_playItems_0 (loopAt Try.f33 0) ⟨[.int .i64 ch, .ptr 4 0, .ptr 8 0, .ptr 9 0, .row 22, .int .i64 n], [.row tItem fs], [.int .i64 c, .int .i64 d, .int .i64 lo, .int .i64 k], [[.nilS], [.own tNote ns], [.int .i64 a, .int .i64 b]]⟩ = .ite (decide (k < n)) (.need ((0 : Int) ≤ k ∧ k < (↑fs.length : Int)) (.need (k.toNat < fs.length) (.ite ((fs.getD k.toNat tItem.zero).fst == (3 : Int)) (.need (inK IntKind.i64 (k + (1 : Int))) (.leaf (.normal, ⟨[.int .i64 (ch), .ptr 4 0, .ptr 8 0, .ptr 9 0, .row 22, .int .i64 (n)], [.row (I64.pair (tPitch.seq.pair (tFrac.pair (I64.pair (tIv.pair I64))))) (fs)], [.int .i64 (c), .int .i64 (d), .int .i64 ((fs.getD k.toNat tItem.zero).snd.snd.snd.fst), .int .i64 (k + (1 : Int))], [[.nilS], [.own (tFrac.pair (tFrac.pair (I64.pair (I64.pair I64)))) (ns)], [.int .i64 (a), .int .i64 (b)]]⟩))) (.need ((((0 : Int) ≤ (0 : Int) ∧ (0 : Int) ≤ (↑(List.length (fs.getD k.toNat tItem.zero).snd.fst) : Int)) ∧ (↑(List.length (fs.getD k.toNat tItem.zero).snd.fst) : Int) = (↑(List.length (fs.getD k.toNat tItem.zero).snd.fst) : Int) ∧ (↑(List.length (fs.getD k.toNat tItem.zero).snd.fst) : Int) ≤ (6 : Int) ∧ (↑ns.length : Int) + ((↑(List.length (fs.getD k.toNat tItem.zero).snd.fst) : Int) - (0 : Int)) ≤ (1000 : Int)) ∧ ∀ (p : ((Ty.int IntKind.i64).pair ((Ty.int IntKind.i64).pair (Ty.int IntKind.i64))).den), p ∈ (fs.getD k.toNat tItem.zero).snd.fst → okPt p = true) (.ite ((List.drop (Int.toNat (0 : Int)) (fs.getD k.toNat tItem.zero).snd.fst).all fun (p : ((Ty.int IntKind.i64).pair ((Ty.int IntKind.i64).pair (Ty.int IntKind.i64))).den) => noteF (ntI a b (fs.getD k.toNat tItem.zero).snd.snd.fst.fst (fs.getD k.toNat tItem.zero).snd.snd.fst.snd lo ch p)) (.ite ((addF a b (fs.getD k.toNat tItem.zero).snd.snd.fst.fst (fs.getD k.toNat tItem.zero).snd.snd.fst.snd).snd != (0 : Int)) (.leaf (.ret, ⟨[.int .i64 (ch), .ptr 4 0, .ptr 8 0, .ptr 9 0, .row 22, .int .i64 (n)], [.row (I64.pair (tPitch.seq.pair (tFrac.pair (I64.pair (tIv.pair I64))))) (fs)], [.int .i64 ((addF a b (fs.getD k.toNat tItem.zero).snd.snd.fst.fst (fs.getD k.toNat tItem.zero).snd.snd.fst.snd).snd), .int .i64 ((addF a b (fs.getD k.toNat tItem.zero).snd.snd.fst.fst (fs.getD k.toNat tItem.zero).snd.snd.fst.snd).snd), .int .i64 (lo), .int .i64 (k)], [[.nilS], [.own (tFrac.pair (tFrac.pair (I64.pair (I64.pair I64)))) (ns ++ List.map (ntI a b (fs.getD k.toNat tItem.zero).snd.snd.fst.fst (fs.getD k.toNat tItem.zero).snd.snd.fst.snd lo ch) (List.drop (Int.toNat (0 : Int)) (fs.getD k.toNat tItem.zero).snd.fst))], [.int .i64 ((addF a b (fs.getD k.toNat tItem.zero).snd.snd.fst.fst (fs.getD k.toNat tItem.zero).snd.snd.fst.snd).fst.fst), .int .i64 ((addF a b (fs.getD k.toNat tItem.zero).snd.snd.fst.fst (fs.getD k.toNat tItem.zero).snd.snd.fst.snd).fst.snd)]]⟩)) (.need (inK IntKind.i64 (k + (1 : Int))) (.leaf (.normal, ⟨[.int .i64 (ch), .ptr 4 0, .ptr 8 0, .ptr 9 0, .row 22, .int .i64 (n)], [.row (I64.pair (tPitch.seq.pair (tFrac.pair (I64.pair (tIv.pair I64))))) (fs)], [.int .i64 (c), .int .i64 ((addF a b (fs.getD k.toNat tItem.zero).snd.snd.fst.fst (fs.getD k.toNat tItem.zero).snd.snd.fst.snd).snd), .int .i64 (lo), .int .i64 (k + (1 : Int))], [[.nilS], [.own (tFrac.pair (tFrac.pair (I64.pair (I64.pair I64)))) (ns ++ List.map (ntI a b (fs.getD k.toNat tItem.zero).snd.snd.fst.fst (fs.getD k.toNat tItem.zero).snd.snd.fst.snd lo ch) (List.drop (Int.toNat (0 : Int)) (fs.getD k.toNat tItem.zero).snd.fst))], [.int .i64 ((addF a b (fs.getD k.toNat tItem.zero).snd.snd.fst.fst (fs.getD k.toNat tItem.zero).snd.snd.fst.snd).fst.fst), .int .i64 ((addF a b (fs.getD k.toNat tItem.zero).snd.snd.fst.fst (fs.getD k.toNat tItem.zero).snd.snd.fst.snd).fst.snd)]]⟩)))) (.leaf (.ret, ⟨[.int .i64 (ch), .ptr 4 0, .ptr 8 0, .ptr 9 0, .row 22, .int .i64 (n)], [.row (I64.pair (tPitch.seq.pair (tFrac.pair (I64.pair (tIv.pair I64))))) (fs)], [.int .i64 ((2 : Int)), .unk, .int .i64 (lo), .int .i64 (k)], [[.nilS], [.unk], [.int .i64 (a), .int .i64 (b)]]⟩))))))) (.leaf ((.exit 0), ⟨[.int .i64 (ch), .ptr 4 0, .ptr 8 0, .ptr 9 0, .row 22, .int .i64 (n)], [.row (I64.pair (tPitch.seq.pair (tFrac.pair (I64.pair (tIv.pair I64))))) (fs)], [.int .i64 (c), .int .i64 (d), .int .i64 (lo), .int .i64 (k)], [[.nilS], [.own (tFrac.pair (tFrac.pair (I64.pair (I64.pair I64)))) (ns)], [.int .i64 (a), .int .i64 (b)]]⟩)) := by kernel_rfl
  rw [htree]
  clear htree
  replace hp : ((0 ≤ k ∧ k ≤ n) ∧ n = (fs.length : Int) ∧ n ≤ 80 ∧ (ns.length : Int) ≤ 6 * k) ∧ okF a b = true ∧ ∀ y ∈ fs, gdI y := hp
  obtain ⟨⟨hk, hn, h80, hns⟩, hab, hg⟩ := hp
  simp only [Tree.ok, tyd_inj, packAV, AV.same, AV.same.sameL, encV, encS, enc, inK, Nd.ok, List.headD_cons, List.cons_append, List.nil_append, List.append_nil, true_and, and_true, Bool.true_and, Bool.and_true, loop_next, weakBs_nil, weakBs_cons, weakB_self, weakB_row, weakB_int, weakL_nil, weakL_unk, weakL_guess, isRow_own, isRow_unk, weakL_int, weakL_bool, weakL_str, weakL_own, weakL_view, weakL_nilS, noRow_int, noRow_bool, own_inj, LTree.val, cond_true, cond_false, Prod.mk.injEq, List.cons.injEq, AV.int.injEq, AV.bool.injEq, AV.str.injEq, AV.agg.injEq, ann_playItems_0, decide_eq_true_eq, decide_eq_false_iff_not, bne_iff_ne, ne_eq, bne_eq_false_iff_eq, beq_iff_eq, beq_eq_false_iff_ne, Int.toNat_zero, List.drop_zero]
  refine ⟨fun ha => ?_, fun ha => ?_⟩
  · have h1 := playGo_at ch fs k.toNat (by omega) a b lo
    have hy := mem_at hg k.toNat tItem.zero (by omega)
    rw [show (k + 1).toNat = k.toNat + 1 by omega, h1]
    clear h1
    obtain ⟨K, P, A1, A2, V1, M1, M2, Z1, he⟩ := i8 (fs.getD k.toNat tItem.zero)
    simp only [he, playGo] at *
    have h6 : P.length ≤ 6 := hy.4
    have hpt : ∀ p ∈ P, okPt p = true := hy.3
    have hl : K ≠ 3 → lenF A1 A2 = true := hy.2
    clear he
    by_cases hk3 : K = 3
    · simp only [if_pos hk3]
      generalize playGo ch (fs.drop (k.toNat + 1)) a b V1 = R at *
      obtain ⟨R, rb⟩ := R
      cases rb
      all_goals
        repeat' first | apply And.intro | intro _
        all_goals first | omega | assumption | trivial | contradiction | exact hg _ ‹_› | (simp [Tree.ok, tyd_inj, packAV, AV.same, AV.same.sameL, encV, encS, enc, inK, Nd.ok, List.headD_cons, List.cons_append, List.nil_append, List.append_nil, true_and, and_true, Bool.true_and, Bool.and_true, loop_next, weakBs_nil, weakBs_cons, weakB_self, weakB_row, weakB_int, weakL_nil, weakL_unk, weakL_guess, isRow_own, isRow_unk, weakL_int, weakL_bool, weakL_str, weakL_own, weakL_view, weakL_nilS, noRow_int, noRow_bool, own_inj, LTree.val, cond_true, cond_false, Prod.mk.injEq, List.cons.injEq, AV.int.injEq, AV.bool.injEq, AV.str.injEq, AV.agg.injEq, weakB_go, weakB_gu]; done) | (simp_all; done)
    · have hc := addF_ok hab (lenF_ok (hl hk3))
      simp only [if_neg hk3]
      generalize P.all (fun p => noteF (ntI a b A1 A2 lo ch p)) = pb at *
      generalize addF a b A1 A2 = q at *
      obtain ⟨⟨q1, q2⟩, q3⟩ := q
      dsimp only at *
      generalize playGo ch (fs.drop (k.toNat + 1)) q1 q2 lo = R at *
      obtain ⟨R, rb⟩ := R
      cases pb
      · simp only [Bool.false_eq_true, if_false]
        repeat' first | apply And.intro | intro _
        all_goals first | omega | (simp only [List.length_append, List.length_map, List.length_cons, List.length_nil]; omega) | assumption | trivial | contradiction | exact hg _ ‹_› | exact hpt _ ‹_› | (simp [Tree.ok, tyd_inj, packAV, AV.same, AV.same.sameL, encV, encS, enc, inK, Nd.ok, List.headD_cons, List.cons_append, List.nil_append, List.append_nil, true_and, and_true, Bool.true_and, Bool.and_true, loop_next, weakBs_nil, weakBs_cons, weakB_self, weakB_row, weakB_int, weakL_nil, weakL_unk, weakL_guess, isRow_own, isRow_unk, weakL_int, weakL_bool, weakL_str, weakL_own, weakL_view, weakL_nilS, noRow_int, noRow_bool, own_inj, LTree.val, cond_true, cond_false, Prod.mk.injEq, List.cons.injEq, AV.int.injEq, AV.bool.injEq, AV.str.injEq, AV.agg.injEq, weakB_go, weakB_gu]; done) | (simp_all; done)
      · simp only [if_true]
        by_cases h0 : q3 = 0
        · simp only [if_pos h0]
          cases rb
          all_goals
            repeat' first | apply And.intro | intro _
            all_goals first | omega | (simp only [List.length_append, List.length_map, List.length_cons, List.length_nil]; omega) | assumption | trivial | contradiction | exact hg _ ‹_› | exact hpt _ ‹_› | (simp [Tree.ok, tyd_inj, packAV, AV.same, AV.same.sameL, encV, encS, enc, inK, Nd.ok, List.headD_cons, List.cons_append, List.nil_append, List.append_nil, true_and, and_true, Bool.true_and, Bool.and_true, loop_next, weakBs_nil, weakBs_cons, weakB_self, weakB_row, weakB_int, weakL_nil, weakL_unk, weakL_guess, isRow_own, isRow_unk, weakL_int, weakL_bool, weakL_str, weakL_own, weakL_view, weakL_nilS, noRow_int, noRow_bool, own_inj, LTree.val, cond_true, cond_false, Prod.mk.injEq, List.cons.injEq, AV.int.injEq, AV.bool.injEq, AV.str.injEq, AV.agg.injEq, weakB_go, weakB_gu]; done) | (simp_all; done) | skip
        · simp only [if_neg h0]
          have h2 : q3 = 2 := by omega
          subst h2
          repeat' first | apply And.intro | intro _
          all_goals first | omega | (simp only [List.length_append, List.length_map, List.length_cons, List.length_nil]; omega) | assumption | trivial | contradiction | exact hg _ ‹_› | exact hpt _ ‹_› | (simp [Tree.ok, tyd_inj, packAV, AV.same, AV.same.sameL, encV, encS, enc, inK, Nd.ok, List.headD_cons, List.cons_append, List.nil_append, List.append_nil, true_and, and_true, Bool.true_and, Bool.and_true, loop_next, weakBs_nil, weakBs_cons, weakB_self, weakB_row, weakB_int, weakL_nil, weakL_unk, weakL_guess, isRow_own, isRow_unk, weakL_int, weakL_bool, weakL_str, weakL_own, weakL_view, weakL_nilS, noRow_int, noRow_bool, own_inj, LTree.val, cond_true, cond_false, Prod.mk.injEq, List.cons.injEq, AV.int.injEq, AV.bool.injEq, AV.str.injEq, AV.agg.injEq, weakB_go, weakB_gu]; done) | (simp_all; done) | skip
  · rw [show k.toNat = fs.length by omega, List.drop_length]
    simp [Tree.ok, tyd_inj, packAV, AV.same, AV.same.sameL, encV, encS, enc, inK, Nd.ok, List.headD_cons, List.cons_append, List.nil_append, List.append_nil, true_and, and_true, Bool.true_and, Bool.and_true, loop_next, weakBs_nil, weakBs_cons, weakB_self, weakB_row, weakB_int, weakL_nil, weakL_unk, weakL_guess, isRow_own, isRow_unk, weakL_int, weakL_bool, weakL_str, weakL_own, weakL_view, weakL_nilS, noRow_int, noRow_bool, own_inj, LTree.val, cond_true, cond_false, Prod.mk.injEq, List.cons.injEq, AV.int.injEq, AV.bool.injEq, AV.str.injEq, AV.agg.injEq, playGo]
theorem loops_playItems : ∀ c, Try.f33.body = some c → LoopsOk Try.prog (addL (firstId (loopAt Try.f33 1)) ann_playItems_1 (addL (firstId (loopAt Try.f33 0)) ann_playItems_0 noL)) Try.f33.ntmps c := loopsN fun i hi ann h => by
  have hn : loopN Try.f33 = 2 := by kernel_rfl
  rw [hn] at hi
  exact match i, hi, h with
    | 0, _, h => (Option.some.inj ((show (addL (firstId (loopAt Try.f33 1)) ann_playItems_1 (addL (firstId (loopAt Try.f33 0)) ann_playItems_0 noL)) (firstId (loopAt Try.f33 0)) = some ann_playItems_0 from by kernel_rfl).symm.trans h)) ▸ loop_playItems_0
    | 1, _, h => (Option.some.inj ((show (addL (firstId (loopAt Try.f33 1)) ann_playItems_1 (addL (firstId (loopAt Try.f33 0)) ann_playItems_0 noL)) (firstId (loopAt Try.f33 1)) = some ann_playItems_1 from by kernel_rfl).symm.trans h)) ▸ loop_playItems_1
set_option maxHeartbeats 1000000 in
theorem sat_playItems : Sat Try.prog 33 ct_playItems := by
  refine sat_typed (C := C_Jm) (L := (addL (firstId (loopAt Try.f33 1)) ann_playItems_1 (addL (firstId (loopAt Try.f33 0)) ann_playItems_0 noL))) (wr := false) mixedOk Try.func33 C_Jm_ok (loops_playItems) (fun _ => by first | rfl | (simp [ownsOf, ownsOf.ownsL, enc, encV, encS])) fun x hp => ?_
  obtain ⟨(l : List tItem.den), (ch : Int), _⟩ := x
  replace hp : l.length ≤ 80 ∧ ∃ d : Int, 0 ≤ d ∧ d ≤ 3 ∧ vl l d := hp
  have htree : exFunc Try.prog C_Jm false (addL (firstId (loopAt Try.f33 1)) ann_playItems_1 (addL (firstId (loopAt Try.f33 0)) ann_playItems_0 noL)) Try.f33 (encA [.v qItem, .v (.int .i64)] (l, ch, ())) = .ite (!inB ch (0 : Int) (15 : Int)) (.leaf [.agg [.nilS], .int .i64 ((2 : Int))]) (.need (l.length ≤ (80 : Nat) ∧ ∃ (d : Int), (0 : Int) ≤ d ∧ d ≤ (3 : Int) ∧ vl l d) (.ite ((flatC l).snd != (0 : Int)) (.leaf [.agg [.nilS], .int .i64 ((flatC l).snd)]) (.need ((((0 : Int) ≤ (0 : Int) ∧ (0 : Int) ≤ (↑(List.length (flatC l).fst) : Int)) ∧ (↑(List.length (flatC l).fst) : Int) = (↑(List.length (flatC l).fst) : Int) ∧ (↑(List.length (flatC l).fst) : Int) ≤ (80 : Int) ∧ (↑(0 : Nat) : Int) ≤ (6 : Int) * (0 : Int)) ∧ okF (0 : Int) (1 : Int) = true ∧ ∀ (y : ((Ty.int IntKind.i64).pair (((Ty.int IntKind.i64).pair ((Ty.int IntKind.i64).pair (Ty.int IntKind.i64))).seq.pair (((Ty.int IntKind.i64).pair (Ty.int IntKind.i64)).pair ((Ty.int IntKind.i64).pair (((Ty.int IntKind.i64).pair (Ty.int IntKind.i64)).pair (Ty.int IntKind.i64)))))).den), y ∈ (flatC l).fst → gdI y) (.ite ((playGo ch (List.drop (Int.toNat (0 : Int)) (flatC l).fst) (0 : Int) (1 : Int) (80 : Int)).snd) (.ite (decide ((60 : Int) < (↑([] ++ (playGo ch (List.drop (Int.toNat (0 : Int)) (flatC l).fst) (0 : Int) (1 : Int) (80 : Int)).fst).length : Int))) (.leaf [.agg [.nilS], .int .i64 ((5 : Int))]) (.leaf [.agg [.own (tFrac.pair (tFrac.pair (I64.pair (I64.pair I64)))) ([] ++ (playGo ch (List.drop (Int.toNat (0 : Int)) (flatC l).fst) (0 : Int) (1 : Int) (80 : Int)).fst)], .int .i64 ((0 : Int))])) (.leaf [.agg [.nilS], .int .i64 ((2 : Int))]))))) := by kernel_rfl
  refine (congrArg (Tree.ok _) htree).mpr ?_
  clear htree
  have hgd : (∀ y ∈ (flatC l).1, gdI y) ∧ (flatC l).1.length ≤ 80 := by
    obtain ⟨_, d, d0, d3, hv⟩ := hp
    have hg := flatV_gd d0 d3 hv
    unfold flatC
    split
    · simp
    · exact ⟨hg.1, by omega⟩
  have e1 : okF 0 1 = true := by decide
  simp only [Tree.ok, tyd_inj, packAV, AV.same, AV.same.sameL, encV, encS, enc, inK, Nd.ok, List.headD_cons, List.cons_append, List.nil_append, List.append_nil, true_and, and_true, Bool.true_and, Bool.and_true, playC, Int.toNat_zero, List.drop_zero, List.nil_append, decide_eq_true_eq, decide_eq_false_iff_not, bne_iff_ne, ne_eq, bne_eq_false_iff_eq, Bool.not_eq_true', Bool.not_eq_false']
  generalize flatC l = F at *
  obtain ⟨F, c⟩ := F
  dsimp only at *
  generalize playGo ch F 0 1 80 = R at *
  obtain ⟨R, rb⟩ := R
  dsimp only at *
  cases inB ch 0 15
  all_goals
    by_cases h0 : c = 0
    all_goals
      by_cases h1 : 60 < (R.length : Int)
      all_goals
        cases rb
        all_goals
          simp only [h0, h1, if_true, if_false, Bool.false_eq_true]
          repeat' first | apply And.intro | intro _
          all_goals first | omega | exact hp.1 | exact hp.2 | exact hgd.1 _ ‹_› | exact hgd.2 | assumption | trivial | contradiction | (simp_all; done) | (simp_all; omega)
def C_Jp_1 : FuncId → Option Ct := addC 33 ct_playItems C_Jm
theorem C_Jp_1_ok : COk Try.prog C_Jp_1 := addC_ok C_Jm_ok sat_playItems
def ct_iPlayItems : Ct := ctOf [.v qItem, .v (.int .i64)] (fun ((l : List tItem.den), (ch : Int), _) => .p ((l.length : Int) ≤ 9223372036854775807 ∧ ∀ z ∈ l, pLen z.2.1 ≤ 9223372036854775807)) (fun ((l : List tItem.den), (ch : Int), _) => .tup [.agg [.own tNote (playA l ch).1], .int .i64 (playA l ch).2])
set_option maxHeartbeats 1000000 in
theorem sat_iPlayItems : Sat Try.prog 10 ct_iPlayItems := by
  refine sat_typed (C := C_Jp_1) (L := noL) (wr := false) mixedOk Try.func10 C_Jp_1_ok (loops0 (by kernel_rfl)) (fun _ => by first | rfl | (simp [ownsOf, ownsOf.ownsL, enc, encV, encS])) fun x hp => ?_
  obtain ⟨(l : List tItem.den), (ch : Int), _⟩ := x
  replace hp : (l.length : Int) ≤ 9223372036854775807 ∧ ∀ z ∈ l, pLen z.2.1 ≤ 9223372036854775807 := hp
  have htree : exFunc Try.prog C_Jp_1 false noL Try.f10 (encA [.v qItem, .v (.int .i64)] (l, ch, ())) = .need ((↑l.length : Int) ≤ (9223372036854775807 : Int) ∧ ∀ (z : tItem.den), z ∈ l → pLen z.snd.fst ≤ (9223372036854775807 : Int)) (.ite (!(decide (l.length ≤ (80 : Nat)) && rngF l.length l (0 : Int))) (.leaf [.agg [.nilS], .int .i64 ((1 : Int))]) (.need (l.length ≤ (80 : Nat) ∧ ∃ (d : Int), (0 : Int) ≤ d ∧ d ≤ (3 : Int) ∧ vl l d) (.leaf [.agg [.own (tFrac.pair (tFrac.pair (I64.pair (I64.pair I64)))) ((if inB ch (0 : Int) (15 : Int) = true then playC (flatC l) ch else ([], (2 : Int))).fst)], .int .i64 ((if inB ch (0 : Int) (15 : Int) = true then playC (flatC l) ch else ([], (2 : Int))).snd)]))) := by kernel_rfl
  refine (congrArg (Tree.ok _) htree).mpr ?_
  clear htree
  have hv := @okItems_vl l
  have e : (decide (l.length ≤ 80) && rngF l.length l 0) = okItems l := rfl
  simp only [Tree.ok, tyd_inj, packAV, AV.same, AV.same.sameL, encV, encS, enc, inK, Nd.ok, List.headD_cons, List.cons_append, List.nil_append, List.append_nil, true_and, and_true, Bool.true_and, Bool.and_true, playA, e]
  generalize (if inB ch 0 15 = true then playC (flatC l) ch else ([], 2)) = R at *
  cases ho : okItems l
  all_goals
    simp only [Bool.false_eq_true, if_false, if_true]
    repeat' first | apply And.intro | intro _
    all_goals first | exact hp.1 | exact hp.2 _ ‹_› | exact (hv ho).1 | exact (hv ho).2 | trivial | rfl | contradiction | (simp_all; done)
def C_Jp_2 : FuncId → Option Ct := addC 10 ct_iPlayItems C_Jp_1
theorem C_Jp_2_ok : COk Try.prog C_Jp_2 := addC_ok C_Jp_1_ok sat_iPlayItems
def ann_sPlayItems_0 : LAnn := { sameS := [1, 4, 6, 8], modS := [5, 7, 9, 10, 11], sameH := [27], modH := [4, 8], base := 900000, nilE := [], nilB := [], G := fun
  | ⟨[.int .i64 ch, .ptr 4 0, .row 27, .ptr 8 0], [.row (.pair (.int .i64) (.pair (.seq (.pair (.int .i64) (.pair (.int .i64) (.int .i64)))) (.pair (.pair (.int .i64) (.int .i64)) (.pair (.int .i64) (.pair (.pair (.int .i64) (.int .i64)) (.int .i64)))))) fs], [.int .i64 c, .int .i64 d, .int .i64 lo, .own (.pair (.pair (.int .i64) (.int .i64)) (.pair (.pair (.int .i64) (.int .i64)) (.pair (.int .i64) (.pair (.int .i64) (.int .i64))))) ns, .int .i64 k], [[.nilS], [.int .i64 a, .int .i64 b]]⟩ => some (.p (((0 ≤ k ∧ k ≤ (fs.length : Int)) ∧ (fs.length : Int) ≤ 80 ∧ (ns.length : Int) ≤ 6 * k) ∧ okF a b = true ∧ ∀ y ∈ fs, gdI y), .ite ((playGo ch (fs.drop k.toNat) a b lo).2) (.leaf (.exit 0) [.int .i64 c, .unk, .unk, .own tNote (ns ++ (playGo ch (fs.drop k.toNat) a b lo).1), .unk] [[.nilS], [.unk, .unk]]) (.leaf .ret [.int .i64 2, .unk, .unk, .guess True, .unk] [[.nilS], [.unk, .unk]]))
  | _ => none }
def ann_sPlayItems_1 : LAnn := { sameS := [1, 4, 6, 7, 8, 9, 11, 12], modS := [5, 10, 13], sameH := [8, 27], modH := [4], base := 950000, nilE := [], nilB := [], G := fun
  | ⟨[.int .i64 ch, .ptr 4 0, .row 27, .int .i64 d, .ptr 8 0, .int .i64 lo, .int .i64 k, .elt 8 27 q 0], [.box [.int .i64 a, .int .i64 b], .row (.pair (.int .i64) (.pair (.seq (.pair (.int .i64) (.pair (.int .i64) (.int .i64)))) (.pair (.pair (.int .i64) (.int .i64)) (.pair (.int .i64) (.pair (.pair (.int .i64) (.int .i64)) (.int .i64)))))) fs], [.int .i64 c, .own (.pair (.pair (.int .i64) (.int .i64)) (.pair (.pair (.int .i64) (.int .i64)) (.pair (.int .i64) (.pair (.int .i64) (.int .i64))))) ns, .int .i64 j], [[.nilS]]⟩ => some (.p (((0 ≤ j ∧ j ≤ pLen ((fs.getD q tItem.zero).2.1 : List tPitch.den)) ∧ q < fs.length ∧ pLen ((fs.getD q tItem.zero).2.1 : List tPitch.den) ≤ 6 ∧ (ns.length : Int) + (pLen ((fs.getD q tItem.zero).2.1 : List tPitch.den) - j) ≤ 1000) ∧ ∀ p ∈ ((fs.getD q tItem.zero).2.1 : List tPitch.den), okPt p = true), .ite ((((fs.getD q tItem.zero).2.1 : List tPitch.den).drop j.toNat).all (fun p => noteF (ntI a b (fs.getD q tItem.zero).2.2.1.1 (fs.getD q tItem.zero).2.2.1.2 lo ch p))) (.leaf (.exit 2) [.int .i64 c, .own tNote (ns ++ (((fs.getD q tItem.zero).2.1 : List tPitch.den).drop j.toNat).map (ntI a b (fs.getD q tItem.zero).2.2.1.1 (fs.getD q tItem.zero).2.2.1.2 lo ch)), .unk] [[.nilS]]) (.leaf .ret [.int .i64 2, .guess True, .unk] [[.nilS]]))
  | _ => none }
def ct_sPlayItems : Ct := ctOf [.v qItem, .v (.int .i64)] (fun ((l : List tItem.den), (ch : Int), _) => .p ((l.length : Int) ≤ 9223372036854775807 ∧ ∀ z ∈ l, pLen z.2.1 ≤ 9223372036854775807)) (fun ((l : List tItem.den), (ch : Int), _) => .tup [.agg [.own tNote (playA l ch).1], .int .i64 (playA l ch).2])
set_option maxHeartbeats 1000000 in
theorem loop_sPlayItems_1 : LoopSat Try.prog Try.f8.ntmps (loopAt Try.f8 1) ann_sPlayItems_1 := by
  refine loopSat_of (C := C_Jp_2) (L := (addL (firstId (loopAt Try.f8 1)) ann_sPlayItems_1 (addL (firstId (loopAt Try.f8 0)) ann_sPlayItems_0 noL))) (wr := false) mixedOk C_Jp_2_ok (loopsIn0 (by kernel_rfl)) (fun d => match d.same, d.blk, d.vals with | _, _, [_, _, .int _ j] => (6 - j).toNat | _, _, _ => 0) fun d p t hG hp => ?_
  simp only [ann_sPlayItems_1] at hG
  split at hG
  rotate_left
  · simp at hG
  rename_i ch d lo k q a b fs c ns j
  simp only [Option.some.injEq, Prod.mk.injEq] at hG
  obtain ⟨rfl, rfl⟩ := hG
  have htree : exRound Try.prog C_Jp_2 false (addL (firstId (loopAt Try.f8 1)) ann_sPlayItems_1 (addL (firstId (loopAt Try.f8 0)) ann_sPlayItems_0 noL)) Try.f8.ntmps ann_sPlayItems_1 (loopAt Try.f8 1) ⟨[.int .i64 ch, .ptr 4 0, .row 27, .int .i64 d, .ptr 8 0, .int .i64 lo, .int .i64 k, .elt 8 27 q 0], [.box [.int .i64 a, .int .i64 b], .row tItem fs], [.int .i64 c, .own tNote ns, .int .i64 j], [[.nilS]]⟩ = .need (q < fs.length) (.ite (decide (j < (↑(List.length (fs.getD q tItem.zero).snd.fst) : Int))) (.need (q < fs.length) (.need (q < fs.length) (.need ((0 : Int) ≤ j ∧ j < (↑(List.length (fs.getD q tItem.zero).snd.fst) : Int)) (.need (((0 : Int) ≤ (getT tPitch (fs.getD q tItem.zero).snd.fst j).fst ∧ (getT tPitch (fs.getD q tItem.zero).snd.fst j).fst ≤ (6 : Int)) ∧ ((-1000 : Int) ≤ (getT tPitch (fs.getD q tItem.zero).snd.fst j).snd.fst ∧ (getT tPitch (fs.getD q tItem.zero).snd.fst j).snd.fst ≤ (1000 : Int)) ∧ (-1000 : Int) ≤ (getT tPitch (fs.getD q tItem.zero).snd.fst j).snd.snd ∧ (getT tPitch (fs.getD q tItem.zero).snd.fst j).snd.snd ≤ (1000 : Int)) (.ite (!noteF ((a, b), ((fs.getD q tItem.zero).snd.snd.fst.fst, (fs.getD q tItem.zero).snd.snd.fst.snd), keyF (getT tPitch (fs.getD q tItem.zero).snd.fst j).fst (getT tPitch (fs.getD q tItem.zero).snd.fst j).snd.fst (getT tPitch (fs.getD q tItem.zero).snd.fst j).snd.snd, lo, ch)) (.leaf (.ret, ⟨[.int .i64 (ch), .ptr 4 0, .row 27, .int .i64 (d), .ptr 8 0, .int .i64 (lo), .int .i64 (k), .elt 8 27 (q) ((0 : Nat))], [.box [.int .i64 (a), .int .i64 (b)], .row (I64.pair (tPitch.seq.pair (tFrac.pair (I64.pair (tIv.pair I64))))) (fs)], [.int .i64 ((2 : Int)), .own (tFrac.pair (tFrac.pair (I64.pair (I64.pair I64)))) (ns), .int .i64 (j)], [[.nilS]]⟩)) (.need (ns.length + [((a, b), ((fs.getD q tItem.zero).snd.snd.fst.fst, (fs.getD q tItem.zero).snd.snd.fst.snd), keyF (getT tPitch (fs.getD q tItem.zero).snd.fst j).fst (getT tPitch (fs.getD q tItem.zero).snd.fst j).snd.fst (getT tPitch (fs.getD q tItem.zero).snd.fst j).snd.snd, lo, ch)].length ≤ (16777216 : Nat)) (.need (inK IntKind.i64 (j + (1 : Int))) (.leaf (.normal, ⟨[.int .i64 (ch), .ptr 4 0, .row 27, .int .i64 (d), .ptr 8 0, .int .i64 (lo), .int .i64 (k), .elt 8 27 (q) ((0 : Nat))], [.box [.int .i64 (a), .int .i64 (b)], .row (I64.pair (tPitch.seq.pair (tFrac.pair (I64.pair (tIv.pair I64))))) (fs)], [.int .i64 (c), .own (tFrac.pair (tFrac.pair (I64.pair (I64.pair I64)))) (ns ++ [((a, b), ((fs.getD q tItem.zero).snd.snd.fst.fst, (fs.getD q tItem.zero).snd.snd.fst.snd), keyF (getT tPitch (fs.getD q tItem.zero).snd.fst j).fst (getT tPitch (fs.getD q tItem.zero).snd.fst j).snd.fst (getT tPitch (fs.getD q tItem.zero).snd.fst j).snd.snd, lo, ch)]), .int .i64 (j + (1 : Int))], [[.nilS]]⟩))))))))) (.leaf ((.exit 2), ⟨[.int .i64 (ch), .ptr 4 0, .row 27, .int .i64 (d), .ptr 8 0, .int .i64 (lo), .int .i64 (k), .elt 8 27 (q) ((0 : Nat))], [.box [.int .i64 (a), .int .i64 (b)], .row (I64.pair (tPitch.seq.pair (tFrac.pair (I64.pair (tIv.pair I64))))) (fs)], [.int .i64 (c), .own (tFrac.pair (tFrac.pair (I64.pair (I64.pair I64)))) (ns), .int .i64 (j)], [[.nilS]]⟩))) := by kernel_rfl
  rw [htree]
  clear htree
  replace hp : ((0 ≤ j ∧ j ≤ pLen ((fs.getD q tItem.zero).2.1 : List tPitch.den)) ∧ q < fs.length ∧ pLen ((fs.getD q tItem.zero).2.1 : List tPitch.den) ≤ 6 ∧ (ns.length : Int) + (pLen ((fs.getD q tItem.zero).2.1 : List tPitch.den) - j) ≤ 1000) ∧ ∀ p ∈ ((fs.getD q tItem.zero).2.1 : List tPitch.den), okPt p = true := hp
  obtain ⟨⟨hj, hm, h6, hns⟩, hq⟩ := hp
  simp only [Tree.ok, tyd_inj, packAV, AV.same, AV.same.sameL, encV, encS, enc, inK, Nd.ok, List.headD_cons, List.cons_append, List.nil_append, List.append_nil, true_and, and_true, Bool.true_and, Bool.and_true, loop_next, weakBs_nil, weakBs_cons, weakB_self, weakB_row, weakB_int, weakL_nil, weakL_unk, weakL_guess, isRow_own, isRow_unk, weakL_int, weakL_bool, weakL_str, weakL_own, weakL_view, weakL_nilS, noRow_int, noRow_bool, own_inj, LTree.val, cond_true, cond_false, Prod.mk.injEq, List.cons.injEq, AV.int.injEq, AV.bool.injEq, AV.str.injEq, AV.agg.injEq, ann_sPlayItems_1, decide_eq_true_eq, decide_eq_false_iff_not, bne_iff_ne, ne_eq, bne_eq_false_iff_eq, beq_iff_eq, beq_eq_false_iff_ne, Bool.not_eq_true', Bool.not_eq_false']
  simp only [getT]
  obtain ⟨K, P, u, v, V1, M1, M2, Z1, he⟩ := i8 (fs.getD q tItem.zero)
  simp only [he, pLen] at *
  refine ⟨hm, fun ha => ?_, fun ha => ?_⟩
  · have h1 := all_at (fun p => noteF (ntI a b u v lo ch p)) P tPitch.zero j.toNat (by omega)
    have h2 := map_at (ntI a b u v lo ch) P tPitch.zero j.toNat (by omega)
    have hy := mem_at hq j.toNat tPitch.zero (by omega)
    rw [show (j + 1).toNat = j.toNat + 1 by omega, h1, h2]
    clear h1 h2
    obtain ⟨S, A, O, he2⟩ := p3 (P.getD j.toNat tPitch.zero)
    simp only [he2] at *
    have hb := key_pre hy
    simp only [ntI, keyP] at *
    generalize (P.drop (j.toNat + 1)).all (fun p => noteF ((a, b), (u, v), keyF p.1 p.2.1 p.2.2, lo, ch)) = bb at *
    cases hc : noteF ((a, b), (u, v), keyF S A O, lo, ch)
    all_goals
      simp only [hc, Bool.false_and, Bool.true_and]
      cases bb
      all_goals
        repeat' first | apply And.intro | intro _
        all_goals first | omega | (simp only [List.length_append, List.length_map, List.length_cons, List.length_nil]; omega) | assumption | trivial | contradiction | exact hq _ ‹_› | exact hb.1.1 | exact hb.1.2 | exact hb.2.1.1 | exact hb.2.1.2 | exact hb.2.2.1 | exact hb.2.2.2 | (simp [Tree.ok, tyd_inj, packAV, AV.same, AV.same.sameL, encV, encS, enc, inK, Nd.ok, List.headD_cons, List.cons_append, List.nil_append, List.append_nil, true_and, and_true, Bool.true_and, Bool.and_true, loop_next, weakBs_nil, weakBs_cons, weakB_self, weakB_row, weakB_int, weakL_nil, weakL_unk, weakL_guess, isRow_own, isRow_unk, weakL_int, weakL_bool, weakL_str, weakL_own, weakL_view, weakL_nilS, noRow_int, noRow_bool, own_inj, LTree.val, cond_true, cond_false, Prod.mk.injEq, List.cons.injEq, AV.int.injEq, AV.bool.injEq, AV.str.injEq, AV.agg.injEq, weakB_go, weakB_gu]; done) | (simp_all; done) | skip
  · rw [show j.toNat = P.length by omega, List.drop_length]
    simp [Tree.ok, tyd_inj, packAV, AV.same, AV.same.sameL, encV, encS, enc, inK, Nd.ok, List.headD_cons, List.cons_append, List.nil_append, List.append_nil, true_and, and_true, Bool.true_and, Bool.and_true, loop_next, weakBs_nil, weakBs_cons, weakB_self, weakB_row, weakB_int, weakL_nil, weakL_unk, weakL_guess, isRow_own, isRow_unk, weakL_int, weakL_bool, weakL_str, weakL_own, weakL_view, weakL_nilS, noRow_int, noRow_bool, own_inj, LTree.val, cond_true, cond_false, Prod.mk.injEq, List.cons.injEq, AV.int.injEq, AV.bool.injEq, AV.str.injEq, AV.agg.injEq]
set_option maxHeartbeats 1000000 in
theorem loop_sPlayItems_0 : LoopSat Try.prog Try.f8.ntmps (loopAt Try.f8 0) ann_sPlayItems_0 := by
  refine loopSat_of (C := C_Jp_2) (L := (addL (firstId (loopAt Try.f8 1)) ann_sPlayItems_1 (addL (firstId (loopAt Try.f8 0)) ann_sPlayItems_0 noL))) (wr := false) mixedOk C_Jp_2_ok (loopsIn1 (b := loopAt Try.f8 1) (by kernel_rfl) (fun ann h => (Option.some.inj ((show (addL (firstId (loopAt Try.f8 1)) ann_sPlayItems_1 (addL (firstId (loopAt Try.f8 0)) ann_sPlayItems_0 noL)) (firstId (loopAt Try.f8 1)) = some ann_sPlayItems_1 from by kernel_rfl).symm.trans h)) ▸ loop_sPlayItems_1)) (fun d => match d.blk, d.vals with | [.row _ fs], [_, _, _, _, .int _ k] => ((fs.length : Int) - k).toNat | _, _ => 0) fun d p t hG hp => ?_
  simp only [ann_sPlayItems_0] at hG
  split at hG
  rotate_left
  · simp at hG
  rename_i ch fs c d lo ns k a b
  simp only [Option.some.injEq, Prod.mk.injEq] at hG
  obtain ⟨rfl, rfl⟩ := hG
  have htree : exRound Try.prog C_Jp_2 false (addL (firstId (loopAt Try.f8 1)) ann_sPlayItems_1 (addL (firstId (loopAt Try.f8 0)) ann_sPlayItems_0 noL)) Try.f8.ntmps ann_sPlayItems_0 (loopAt Try.f8 0) ⟨[.int .i64 ch, .ptr 4 0, .row 27, .ptr 8 0], [.row tItem fs], [.int .i64 c, .int .i64 d, .int .i64 lo, .own tNote ns, .int .i64 k], [[.nilS], [.int .i64 a, .int .i64 b]]⟩ = .ite (decide (k < (↑fs.length : Int))) (.need ((0 : Int) ≤ k ∧ k < (↑fs.length : Int)) (.need (k.toNat < fs.length) (.ite ((fs.getD k.toNat tItem.zero).fst == (3 : Int)) (.need (k.toNat < fs.length) (.need (inK IntKind.i64 (k + (1 : Int))) (.leaf (.normal, ⟨[.int .i64 (ch), .ptr 4 0, .row 27, .ptr 8 0], [.row (I64.pair (tPitch.seq.pair (tFrac.pair (I64.pair (tIv.pair I64))))) (fs)], [.int .i64 (c), .int .i64 (d), .int .i64 ((fs.getD k.toNat tItem.zero).snd.snd.snd.fst), .own (tFrac.pair (tFrac.pair (I64.pair (I64.pair I64)))) (ns), .int .i64 (k + (1 : Int))], [[.nilS], [.int .i64 (a), .int .i64 (b)]]⟩)))) (.need ((((0 : Int) ≤ (0 : Int) ∧ (0 : Int) ≤ pLen (fs.getD k.toNat tItem.zero).snd.fst) ∧ k.toNat < fs.length ∧ pLen (fs.getD k.toNat tItem.zero).snd.fst ≤ (6 : Int) ∧ (↑ns.length : Int) + (pLen (fs.getD k.toNat tItem.zero).snd.fst - (0 : Int)) ≤ (1000 : Int)) ∧ ∀ (p : ((Ty.int IntKind.i64).pair ((Ty.int IntKind.i64).pair (Ty.int IntKind.i64))).den), p ∈ (fs.getD k.toNat tItem.zero).snd.fst → okPt p = true) (.ite ((List.drop (Int.toNat (0 : Int)) (fs.getD k.toNat tItem.zero).snd.fst).all fun (p : ((Ty.int IntKind.i64).pair ((Ty.int IntKind.i64).pair (Ty.int IntKind.i64))).den) => noteF (ntI a b (fs.getD k.toNat tItem.zero).snd.snd.fst.fst (fs.getD k.toNat tItem.zero).snd.snd.fst.snd lo ch p)) (.need (k.toNat < fs.length) (.ite (!decide ((addF a b (fs.getD k.toNat tItem.zero).snd.snd.fst.fst (fs.getD k.toNat tItem.zero).snd.snd.fst.snd).snd = (0 : Int))) (.leaf (.ret, ⟨[.int .i64 (ch), .ptr 4 0, .row 27, .ptr 8 0], [.row (I64.pair (tPitch.seq.pair (tFrac.pair (I64.pair (tIv.pair I64))))) (fs)], [.int .i64 ((2 : Int)), .int .i64 (d), .int .i64 (lo), .own (tFrac.pair (tFrac.pair (I64.pair (I64.pair I64)))) (ns ++ List.map (ntI a b (fs.getD k.toNat tItem.zero).snd.snd.fst.fst (fs.getD k.toNat tItem.zero).snd.snd.fst.snd lo ch) (List.drop (Int.toNat (0 : Int)) (fs.getD k.toNat tItem.zero).snd.fst)), .int .i64 (k)], [[.nilS], [.int .i64 (a), .int .i64 (b)]]⟩)) (.need (inK IntKind.i64 (k + (1 : Int))) (.leaf (.normal, ⟨[.int .i64 (ch), .ptr 4 0, .row 27, .ptr 8 0], [.row (I64.pair (tPitch.seq.pair (tFrac.pair (I64.pair (tIv.pair I64))))) (fs)], [.int .i64 (c), .int .i64 (d), .int .i64 (lo), .own (tFrac.pair (tFrac.pair (I64.pair (I64.pair I64)))) (ns ++ List.map (ntI a b (fs.getD k.toNat tItem.zero).snd.snd.fst.fst (fs.getD k.toNat tItem.zero).snd.snd.fst.snd lo ch) (List.drop (Int.toNat (0 : Int)) (fs.getD k.toNat tItem.zero).snd.fst)), .int .i64 (k + (1 : Int))], [[.nilS], [.int .i64 ((addF a b (fs.getD k.toNat tItem.zero).snd.snd.fst.fst (fs.getD k.toNat tItem.zero).snd.snd.fst.snd).fst.fst), .int .i64 ((addF a b (fs.getD k.toNat tItem.zero).snd.snd.fst.fst (fs.getD k.toNat tItem.zero).snd.snd.fst.snd).fst.snd)]]⟩))))) (.leaf (.ret, ⟨[.int .i64 (ch), .ptr 4 0, .row 27, .ptr 8 0], [.row (I64.pair (tPitch.seq.pair (tFrac.pair (I64.pair (tIv.pair I64))))) (fs)], [.int .i64 ((2 : Int)), .int .i64 (d), .int .i64 (lo), .unk, .int .i64 (k)], [[.nilS], [.int .i64 (a), .int .i64 (b)]]⟩))))))) (.leaf ((.exit 0), ⟨[.int .i64 (ch), .ptr 4 0, .row 27, .ptr 8 0], [.row (I64.pair (tPitch.seq.pair (tFrac.pair (I64.pair (tIv.pair I64))))) (fs)], [.int .i64 (c), .int .i64 (d), .int .i64 (lo), .own (tFrac.pair (tFrac.pair (I64.pair (I64.pair I64)))) (ns), .int .i64 (k)], [[.nilS], [.int .i64 (a), .int .i64 (b)]]⟩)) := by kernel_rfl
  rw [htree]
  clear htree
  replace hp : ((0 ≤ k ∧ k ≤ (fs.length : Int)) ∧ (fs.length : Int) ≤ 80 ∧ (ns.length : Int) ≤ 6 * k) ∧ okF a b = true ∧ ∀ y ∈ fs, gdI y := hp
  obtain ⟨⟨hk, h80, hns⟩, hab, hg⟩ := hp
  simp only [Tree.ok, tyd_inj, packAV, AV.same, AV.same.sameL, encV, encS, enc, inK, Nd.ok, List.headD_cons, List.cons_append, List.nil_append, List.append_nil, true_and, and_true, Bool.true_and, Bool.and_true, loop_next, weakBs_nil, weakBs_cons, weakB_self, weakB_row, weakB_int, weakL_nil, weakL_unk, weakL_guess, isRow_own, isRow_unk, weakL_int, weakL_bool, weakL_str, weakL_own, weakL_view, weakL_nilS, noRow_int, noRow_bool, own_inj, LTree.val, cond_true, cond_false, Prod.mk.injEq, List.cons.injEq, AV.int.injEq, AV.bool.injEq, AV.str.injEq, AV.agg.injEq, ann_sPlayItems_0, decide_eq_true_eq, decide_eq_false_iff_not, bne_iff_ne, ne_eq, bne_eq_false_iff_eq, beq_iff_eq, beq_eq_false_iff_ne, Int.toNat_zero, List.drop_zero, Bool.not_eq_true', Bool.not_eq_false']
  refine ⟨fun ha => ?_, fun ha => ?_⟩
  · have h1 := playGo_at ch fs k.toNat (by omega) a b lo
    have hy := mem_at hg k.toNat tItem.zero (by omega)
    rw [show (k + 1).toNat = k.toNat + 1 by omega, h1]
    clear h1
    obtain ⟨K, P, A1, A2, V1, M1, M2, Z1, he⟩ := i8 (fs.getD k.toNat tItem.zero)
    simp only [he, playGo, pLen] at *
    have h6 : P.length ≤ 6 := hy.4
    have hpt : ∀ p ∈ P, okPt p = true := hy.3
    have hl : K ≠ 3 → lenF A1 A2 = true := hy.2
    clear he
    by_cases hk3 : K = 3
    · simp only [if_pos hk3]
      generalize playGo ch (fs.drop (k.toNat + 1)) a b V1 = R at *
      obtain ⟨R, rb⟩ := R
      cases rb
      all_goals
        repeat' first | apply And.intro | intro _
        all_goals first | omega | assumption | trivial | contradiction | exact hg _ ‹_› | (simp [Tree.ok, tyd_inj, packAV, AV.same, AV.same.sameL, encV, encS, enc, inK, Nd.ok, List.headD_cons, List.cons_append, List.nil_append, List.append_nil, true_and, and_true, Bool.true_and, Bool.and_true, loop_next, weakBs_nil, weakBs_cons, weakB_self, weakB_row, weakB_int, weakL_nil, weakL_unk, weakL_guess, isRow_own, isRow_unk, weakL_int, weakL_bool, weakL_str, weakL_own, weakL_view, weakL_nilS, noRow_int, noRow_bool, own_inj, LTree.val, cond_true, cond_false, Prod.mk.injEq, List.cons.injEq, AV.int.injEq, AV.bool.injEq, AV.str.injEq, AV.agg.injEq, weakB_go, weakB_gu]; done) | (simp_all; done)
    · have hc := addF_ok hab (lenF_ok (hl hk3))
      simp only [if_neg hk3]
      generalize P.all (fun p => noteF (ntI a b A1 A2 lo ch p)) = pb at *
      generalize addF a b A1 A2 = q at *
      obtain ⟨⟨q1, q2⟩, q3⟩ := q
      dsimp only at *
      generalize playGo ch (fs.drop (k.toNat + 1)) q1 q2 lo = R at *
      obtain ⟨R, rb⟩ := R
      cases pb
      · simp only [Bool.false_eq_true, if_false]
        repeat' first | apply And.intro | intro _
        all_goals first | omega | (simp only [List.length_append, List.length_map, List.length_cons, List.length_nil]; omega) | assumption | trivial | contradiction | exact hg _ ‹_› | exact hpt _ ‹_› | (simp [Tree.ok, tyd_inj, packAV, AV.same, AV.same.sameL, encV, encS, enc, inK, Nd.ok, List.headD_cons, List.cons_append, List.nil_append, List.append_nil, true_and, and_true, Bool.true_and, Bool.and_true, loop_next, weakBs_nil, weakBs_cons, weakB_self, weakB_row, weakB_int, weakL_nil, weakL_unk, weakL_guess, isRow_own, isRow_unk, weakL_int, weakL_bool, weakL_str, weakL_own, weakL_view, weakL_nilS, noRow_int, noRow_bool, own_inj, LTree.val, cond_true, cond_false, Prod.mk.injEq, List.cons.injEq, AV.int.injEq, AV.bool.injEq, AV.str.injEq, AV.agg.injEq, weakB_go, weakB_gu]; done) | (simp_all; done)
      · simp only [if_true]
        by_cases h0 : q3 = 0
        · simp only [if_pos h0]
          cases rb
          all_goals
            repeat' first | apply And.intro | intro _
            all_goals first | omega | (simp only [List.length_append, List.length_map, List.length_cons, List.length_nil]; omega) | assumption | trivial | contradiction | exact hg _ ‹_› | exact hpt _ ‹_› | (simp [Tree.ok, tyd_inj, packAV, AV.same, AV.same.sameL, encV, encS, enc, inK, Nd.ok, List.headD_cons, List.cons_append, List.nil_append, List.append_nil, true_and, and_true, Bool.true_and, Bool.and_true, loop_next, weakBs_nil, weakBs_cons, weakB_self, weakB_row, weakB_int, weakL_nil, weakL_unk, weakL_guess, isRow_own, isRow_unk, weakL_int, weakL_bool, weakL_str, weakL_own, weakL_view, weakL_nilS, noRow_int, noRow_bool, own_inj, LTree.val, cond_true, cond_false, Prod.mk.injEq, List.cons.injEq, AV.int.injEq, AV.bool.injEq, AV.str.injEq, AV.agg.injEq, weakB_go, weakB_gu]; done) | (simp_all; done) | skip
        · simp only [if_neg h0]
          repeat' first | apply And.intro | intro _
          all_goals first | omega | (simp only [List.length_append, List.length_map, List.length_cons, List.length_nil]; omega) | assumption | trivial | contradiction | exact hg _ ‹_› | exact hpt _ ‹_› | (simp [Tree.ok, tyd_inj, packAV, AV.same, AV.same.sameL, encV, encS, enc, inK, Nd.ok, List.headD_cons, List.cons_append, List.nil_append, List.append_nil, true_and, and_true, Bool.true_and, Bool.and_true, loop_next, weakBs_nil, weakBs_cons, weakB_self, weakB_row, weakB_int, weakL_nil, weakL_unk, weakL_guess, isRow_own, isRow_unk, weakL_int, weakL_bool, weakL_str, weakL_own, weakL_view, weakL_nilS, noRow_int, noRow_bool, own_inj, LTree.val, cond_true, cond_false, Prod.mk.injEq, List.cons.injEq, AV.int.injEq, AV.bool.injEq, AV.str.injEq, AV.agg.injEq, weakB_go, weakB_gu]; done) | (simp_all; done) | skip
  · rw [show k.toNat = fs.length by omega, List.drop_length]
    simp [Tree.ok, tyd_inj, packAV, AV.same, AV.same.sameL, encV, encS, enc, inK, Nd.ok, List.headD_cons, List.cons_append, List.nil_append, List.append_nil, true_and, and_true, Bool.true_and, Bool.and_true, loop_next, weakBs_nil, weakBs_cons, weakB_self, weakB_row, weakB_int, weakL_nil, weakL_unk, weakL_guess, isRow_own, isRow_unk, weakL_int, weakL_bool, weakL_str, weakL_own, weakL_view, weakL_nilS, noRow_int, noRow_bool, own_inj, LTree.val, cond_true, cond_false, Prod.mk.injEq, List.cons.injEq, AV.int.injEq, AV.bool.injEq, AV.str.injEq, AV.agg.injEq, playGo]
theorem loops_sPlayItems : ∀ c, Try.f8.body = some c → LoopsOk Try.prog (addL (firstId (loopAt Try.f8 1)) ann_sPlayItems_1 (addL (firstId (loopAt Try.f8 0)) ann_sPlayItems_0 noL)) Try.f8.ntmps c := loopsN fun i hi ann h => by
  have hn : loopN Try.f8 = 2 := by kernel_rfl
  rw [hn] at hi
  exact match i, hi, h with
    | 0, _, h => (Option.some.inj ((show (addL (firstId (loopAt Try.f8 1)) ann_sPlayItems_1 (addL (firstId (loopAt Try.f8 0)) ann_sPlayItems_0 noL)) (firstId (loopAt Try.f8 0)) = some ann_sPlayItems_0 from by kernel_rfl).symm.trans h)) ▸ loop_sPlayItems_0
    | 1, _, h => (Option.some.inj ((show (addL (firstId (loopAt Try.f8 1)) ann_sPlayItems_1 (addL (firstId (loopAt Try.f8 0)) ann_sPlayItems_0 noL)) (firstId (loopAt Try.f8 1)) = some ann_sPlayItems_1 from by kernel_rfl).symm.trans h)) ▸ loop_sPlayItems_1
set_option maxHeartbeats 1000000 in
theorem sat_sPlayItems : Sat Try.prog 8 ct_sPlayItems := by
  refine sat_typed (C := C_Jp_2) (L := (addL (firstId (loopAt Try.f8 1)) ann_sPlayItems_1 (addL (firstId (loopAt Try.f8 0)) ann_sPlayItems_0 noL))) (wr := false) mixedOk Try.func8 C_Jp_2_ok (loops_sPlayItems) (fun _ => by first | rfl | (simp [ownsOf, ownsOf.ownsL, enc, encV, encS])) fun x hp => ?_
  obtain ⟨(l : List tItem.den), (ch : Int), _⟩ := x
  replace hp : (l.length : Int) ≤ 9223372036854775807 ∧ ∀ z ∈ l, pLen z.2.1 ≤ 9223372036854775807 := hp
  have htree : exFunc Try.prog C_Jp_2 false (addL (firstId (loopAt Try.f8 1)) ann_sPlayItems_1 (addL (firstId (loopAt Try.f8 0)) ann_sPlayItems_0 noL)) Try.f8 (encA [.v qItem, .v (.int .i64)] (l, ch, ())) = .need ((↑l.length : Int) ≤ (9223372036854775807 : Int) ∧ ∀ (z : tItem.den), z ∈ l → pLen z.snd.fst ≤ (9223372036854775807 : Int)) (.ite (!(decide (l.length ≤ (80 : Nat)) && rngF l.length l (0 : Int))) (.leaf [.agg [.nilS], .int .i64 ((1 : Int))]) (.ite (!inB ch (0 : Int) (15 : Int)) (.leaf [.agg [.nilS], .int .i64 ((2 : Int))]) (.need ((↑l.length : Int) ≤ (9223372036854775807 : Int) ∧ ∀ (z : tItem.den), z ∈ l → pLen z.snd.fst ≤ (9223372036854775807 : Int)) (.ite ((flatA l).snd != (0 : Int)) (.leaf [.agg [.nilS], .int .i64 ((flatA l).snd)]) (.need ((((0 : Int) ≤ (0 : Int) ∧ (0 : Int) ≤ (↑(List.length (flatA l).fst) : Int)) ∧ (↑(List.length (flatA l).fst) : Int) ≤ (80 : Int) ∧ (↑(0 : Nat) : Int) ≤ (6 : Int) * (0 : Int)) ∧ okF (0 : Int) (1 : Int) = true ∧ ∀ (y : ((Ty.int IntKind.i64).pair (((Ty.int IntKind.i64).pair ((Ty.int IntKind.i64).pair (Ty.int IntKind.i64))).seq.pair (((Ty.int IntKind.i64).pair (Ty.int IntKind.i64)).pair ((Ty.int IntKind.i64).pair (((Ty.int IntKind.i64).pair (Ty.int IntKind.i64)).pair (Ty.int IntKind.i64)))))).den), y ∈ (flatA l).fst → gdI y) (.ite ((playGo ch (List.drop (Int.toNat (0 : Int)) (flatA l).fst) (0 : Int) (1 : Int) (80 : Int)).snd) (.ite (decide ((60 : Int) < (↑([] ++ (playGo ch (List.drop (Int.toNat (0 : Int)) (flatA l).fst) (0 : Int) (1 : Int) (80 : Int)).fst).length : Int))) (.leaf [.agg [.nilS], .int .i64 ((5 : Int))]) (.leaf [.agg [.own (tFrac.pair (tFrac.pair (I64.pair (I64.pair I64)))) ([] ++ (playGo ch (List.drop (Int.toNat (0 : Int)) (flatA l).fst) (0 : Int) (1 : Int) (80 : Int)).fst)], .int .i64 ((0 : Int))])) (.leaf [.agg [.nilS], .int .i64 ((2 : Int))]))))))) := by kernel_rfl
  refine (congrArg (Tree.ok _) htree).mpr ?_
  clear htree
  have hgd := flatA_gd l
  have e1 : okF 0 1 = true := by decide
  have eo : (decide (l.length ≤ 80) && rngF l.length l 0) = okItems l := rfl
  have e : playA l ch = if okItems l = true then (if inB ch 0 15 = true then playC (flatA l) ch else ([], 2)) else ([], 1) := by
    unfold playA flatA
    cases okItems l <;> rfl
  simp only [Tree.ok, tyd_inj, packAV, AV.same, AV.same.sameL, encV, encS, enc, inK, Nd.ok, List.headD_cons, List.cons_append, List.nil_append, List.append_nil, true_and, and_true, Bool.true_and, Bool.and_true, e, eo, playC, Int.toNat_zero, List.drop_zero, List.nil_append, decide_eq_true_eq, decide_eq_false_iff_not, bne_iff_ne, ne_eq, bne_eq_false_iff_eq, Bool.not_eq_true', Bool.not_eq_false']
  generalize flatA l = F at *
  obtain ⟨F, c⟩ := F
  dsimp only at *
  generalize playGo ch F 0 1 80 = R at *
  obtain ⟨R, rb⟩ := R
  dsimp only at *
  clear e eo
  cases okItems l
  all_goals
    cases inB ch 0 15
    all_goals
      by_cases h0 : c = 0
      all_goals
        by_cases h1 : 60 < (R.length : Int)
        all_goals
          cases rb
          all_goals
            simp only [h0, h1, if_true, if_false, Bool.false_eq_true]
            repeat' first | apply And.intro | intro _
            all_goals first | omega | exact hp.1 | exact hp.2 _ ‹_› | exact hgd.1 _ ‹_› | exact hgd.2 | assumption | trivial | contradiction | (simp_all; done) | (simp_all; omega)
def C_Jp_3 : FuncId → Option Ct := addC 8 ct_sPlayItems C_Jp_2
theorem C_Jp_3_ok : COk Try.prog C_Jp_3 := addC_ok C_Jp_2_ok sat_sPlayItems

def C_Jp : FuncId → Option Ct := C_Jp_3
theorem C_Jp_ok : COk Try.prog C_Jp := C_Jp_3_ok
end Go.Proofs.Ytemlpimibhijoaa
