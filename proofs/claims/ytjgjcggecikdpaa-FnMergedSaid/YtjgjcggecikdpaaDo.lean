/- Contracts: scores drawn from bytes. Conditions: as each says. -/
import Derived.Test.YtjgjcggecikdpaaLs
set_option linter.unusedSimpArgs false
set_option linter.unusedVariables false
namespace Go.Proofs.Ytjgjcggecikdpaa
open Go.RowKit Sx
set_option maxRecDepth 100000
set_option maxHeartbeats 1000000
def addN (l : List tNote.den) (n : tNote.den) : List tNote.den := if l.any (fun x => decide (cmpN x n = 0)) = true then l else l ++ [n]
def drawN : Nat → Src → List tNote.den → List tNote.den × Src
  | 0, s, l => (l, s)
  | n + 1, s, l => drawN n (noteS s 6).2 (addN l (noteS s 6).1)
theorem drawN_ok : ∀ (n : Nat) {s : Src} {m : Int} {l : List tNote.den}, okS s m → notesF l = true → okS (drawN n s l).2 (m + 14 * n) ∧ notesF (drawN n s l).1 = true ∧ (drawN n s l).1.length ≤ l.length + n
  | 0, _, _, _, h, hn => ⟨h.mono (by omega), hn, Nat.le_refl _⟩
  | n + 1, s, m, l, h, hn => by
    obtain ⟨A, L, hN⟩ := note24 h (most := 6) (by omega)
    have hv := hN.valid
    have ha : notesF (addN l (noteS s 6).1) = true ∧ (addN l (noteS s 6).1).length ≤ l.length + 1 := by
      unfold addN
      split
      · exact ⟨hn, by omega⟩
      · refine ⟨?_, by simp⟩
        unfold notesF at *
        rw [List.all_append, hn, List.all_cons, hv]; rfl
    have ih := drawN_ok n (noteS_ok h 6) ha.1
    exact ⟨ih.1.mono (by omega), ih.2.1, by have := ih.2.2; have := ha.2; show (drawN n (noteS s 6).2 (addN l (noteS s 6).1)).1.length ≤ _; omega⟩
def scoreS (s : Src) (most : Int) : List tNote.den × Src := (srt ltN (drawN (pickS s (most + 1)).1.toNat (pickS s (most + 1)).2 []).1, (drawN (pickS s (most + 1)).1.toNat (pickS s (most + 1)).2 []).2)
def ann_l18Draw_0 : LAnn := { sameS := [0, 4], modS := [5, 6], sameH := [4], modH := [700000], base := 900000, nilE := [], nilB := [], G := fun
  | ⟨[.ptr 700000 0, .ptr 4 0], [.box [.nilS]], [.own (.pair (.pair (.int .i64) (.int .i64)) (.pair (.pair (.int .i64) (.int .i64)) (.pair (.int .i64) (.pair (.int .i64) (.int .i64))))) out, .int .i64 k], [[.view (Ty.int .u8) code, .int .i64 a, .int .u64 sd]]⟩ => some (.p ((0 ≤ k ∧ k ≤ 100) ∧ (out.length : Int) + k ≤ 100 ∧ okS (code, a, sd) (600003000 - 20 * k) ∧ notesF out = true), .leaf (.exit 0) [.own tNote (drawN k.toNat (code, a, sd) out).1, .unk] [[.view (Ty.int .u8) (drawN k.toNat (code, a, sd) out).2.1, .int .i64 (drawN k.toNat (code, a, sd) out).2.2.1, .int .u64 (drawN k.toNat (code, a, sd) out).2.2.2]])
  | _ => none }
def ann_l18Draw_1 : LAnn := { sameS := [0, 4, 5, 6, 7], modS := [8, 9], sameH := [4, 7, 700000, 900000], modH := [], base := 900000, nilE := [], nilB := [], G := fun
  | ⟨[.ptr 700000 0, .ptr 4 0, .row 900000, .int .i64 k, .ptr 7 0], [.box [.nilS], .box [.int .i64 u, .int .i64 v, .int .i64 u2, .int .i64 v2, .int .i64 key, .int .i64 vel, .int .i64 ch], .box [.view (Ty.int .u8) code, .int .i64 a, .int .u64 sd], .row (.pair (.pair (.int .i64) (.int .i64)) (.pair (.pair (.int .i64) (.int .i64)) (.pair (.int .i64) (.pair (.int .i64) (.int .i64))))) out], [.bool b, .int .i64 i], []⟩ => some (.p ((0 ≤ i ∧ i ≤ (out.length : Int)) ∧ out.length ≤ 100 ∧ notesF out = true ∧ noteF ((u, v), (u2, v2), key, vel, ch) = true), .leaf (.exit 2) [.bool (b || (out.drop i.toNat).any fun x => decide (cmpN x ((u, v), (u2, v2), key, vel, ch) = 0)), .unk] [])
  | _ => none }
def ct_l18Draw : Ct := ctOfB tSrc [.v (.int .i64)] (fun ((code : List (Ty.int .u8).den), (a : Int), (sd : Int)) ((most : Int), _) => .p (okS (code, a, sd) 600000000 ∧ 0 ≤ most ∧ most ≤ 100)) (fun ((code : List (Ty.int .u8).den), (a : Int), (sd : Int)) ((most : Int), _) => .agg [.own tNote (scoreS (code, a, sd) most).1]) (fun ((code : List (Ty.int .u8).den), (a : Int), (sd : Int)) ((most : Int), _) => (scoreS (code, a, sd) most).2)
set_option maxHeartbeats 1000000 in
theorem loop_l18Draw_1 : LoopSat Try.prog Try.f63.ntmps (loopAt Try.f63 1) ann_l18Draw_1 := by
  refine loopSat_of (C := C_Ls) (L := (addL (firstId (loopAt Try.f63 1)) ann_l18Draw_1 (addL (firstId (loopAt Try.f63 0)) ann_l18Draw_0 noL))) (wr := false) mixedOk C_Ls_ok (loopsIn0 (by kernel_rfl)) (fun d => match d.blk, d.vals with | [_, _, _, .row _ out], [_, .int _ i] => ((out.length : Int) - i).toNat | _, _ => 0) fun d p t hG hp => ?_
  simp only [ann_l18Draw_1] at hG
  split at hG
  rotate_left
  · simp at hG
  rename_i k u v u2 v2 key vel ch code a sd out b i
  simp only [Option.some.injEq, Prod.mk.injEq] at hG
  obtain ⟨rfl, rfl⟩ := hG
  have htree : exRound Try.prog C_Ls false (addL (firstId (loopAt Try.f63 1)) ann_l18Draw_1 (addL (firstId (loopAt Try.f63 0)) ann_l18Draw_0 noL)) Try.f63.ntmps ann_l18Draw_1 (loopAt Try.f63 1) ⟨[.ptr 700000 0, .ptr 4 0, .row 900000, .int .i64 k, .ptr 7 0], [.box [.nilS], .box [.int .i64 u, .int .i64 v, .int .i64 u2, .int .i64 v2, .int .i64 key, .int .i64 vel, .int .i64 ch], .box [.view (Ty.int .u8) code, .int .i64 a, .int .u64 sd], .row tNote out], [.bool b, .int .i64 i], []⟩ = .ite (decide (i < (↑out.length : Int))) (.ite (b) (.need (inK IntKind.i64 (i + (1 : Int))) (.leaf (.normal, ⟨[.ptr 700000 0, .ptr 4 0, .row 900000, .int .i64 (k), .ptr 7 0], [.box [.nilS], .box [.int .i64 (u), .int .i64 (v), .int .i64 (u2), .int .i64 (v2), .int .i64 (key), .int .i64 (vel), .int .i64 (ch)], .box [.view (Ty.int IntKind.u8) (code), .int .i64 (a), .int .u64 (sd)], .row (tFrac.pair (tFrac.pair (I64.pair (I64.pair I64)))) (out)], [.bool (true), .int .i64 (i + (1 : Int))], []⟩))) (.need ((0 : Int) ≤ i ∧ i < (↑out.length : Int)) (.need (i.toNat < out.length ∧ noteF (((out.getD i.toNat tNote.zero).fst.fst, (out.getD i.toNat tNote.zero).fst.snd), ((out.getD i.toNat tNote.zero).snd.fst.fst, (out.getD i.toNat tNote.zero).snd.fst.snd), (out.getD i.toNat tNote.zero).snd.snd.fst, (out.getD i.toNat tNote.zero).snd.snd.snd.fst, (out.getD i.toNat tNote.zero).snd.snd.snd.snd) = true ∧ noteF ((u, v), (u2, v2), key, vel, ch) = true) (.need (inK IntKind.i64 (i + (1 : Int))) (.leaf (.normal, ⟨[.ptr 700000 0, .ptr 4 0, .row 900000, .int .i64 (k), .ptr 7 0], [.box [.nilS], .box [.int .i64 (u), .int .i64 (v), .int .i64 (u2), .int .i64 (v2), .int .i64 (key), .int .i64 (vel), .int .i64 (ch)], .box [.view (Ty.int IntKind.u8) (code), .int .i64 (a), .int .u64 (sd)], .row (tFrac.pair (tFrac.pair (I64.pair (I64.pair I64)))) (out)], [.bool (cmpN (((out.getD i.toNat tNote.zero).fst.fst, (out.getD i.toNat tNote.zero).fst.snd), ((out.getD i.toNat tNote.zero).snd.fst.fst, (out.getD i.toNat tNote.zero).snd.fst.snd), (out.getD i.toNat tNote.zero).snd.snd.fst, (out.getD i.toNat tNote.zero).snd.snd.snd.fst, (out.getD i.toNat tNote.zero).snd.snd.snd.snd) ((u, v), (u2, v2), key, vel, ch) == (0 : Int)), .int .i64 (i + (1 : Int))], []⟩)))))) (.leaf ((.exit 2), ⟨[.ptr 700000 0, .ptr 4 0, .row 900000, .int .i64 (k), .ptr 7 0], [.box [.nilS], .box [.int .i64 (u), .int .i64 (v), .int .i64 (u2), .int .i64 (v2), .int .i64 (key), .int .i64 (vel), .int .i64 (ch)], .box [.view (Ty.int IntKind.u8) (code), .int .i64 (a), .int .u64 (sd)], .row (tFrac.pair (tFrac.pair (I64.pair (I64.pair I64)))) (out)], [.bool (b), .int .i64 (i)], []⟩)) := by kernel_rfl
  rw [htree]
  clear htree
  replace hp : (0 ≤ i ∧ i ≤ (out.length : Int)) ∧ out.length ≤ 100 ∧ notesF out = true ∧ noteF ((u, v), (u2, v2), key, vel, ch) = true := hp
  obtain ⟨hi, hl, hn, hx⟩ := hp
  have eta : ∀ x : tNote.den, (((x.1.1, x.1.2), (x.2.1.1, x.2.1.2), x.2.2.1, x.2.2.2.1, x.2.2.2.2) : tNote.den) = x := fun _ => rfl
  have hg : ∀ k : Nat, k < out.length → noteF (out.getD k tNote.zero) = true := fun k hk => by
    rw [getD_lt _ _ _ hk]
    exact List.all_eq_true.mp hn _ (List.getElem_mem hk)
  simp only [Tree.ok, tyd_inj, packAV, AV.same, AV.same.sameL, encV, encS, enc, inK, Nd.ok, List.headD_cons, List.cons_append, List.nil_append, List.append_nil, true_and, and_true, Bool.true_and, Bool.and_true, loop_next, weakBs_nil, weakBs_cons, weakB_self, weakB_row, weakB_int, weakL_nil, weakL_unk, weakL_guess, isRow_own, isRow_unk, weakL_int, weakL_bool, weakL_str, weakL_own, weakL_view, weakL_nilS, noRow_int, noRow_bool, own_inj, LTree.val, cond_true, cond_false, Prod.mk.injEq, List.cons.injEq, AV.int.injEq, AV.bool.injEq, AV.str.injEq, AV.agg.injEq, ann_l18Draw_1, eta, decide_eq_true_eq, decide_eq_false_iff_not]
  generalize ((((u, v), (u2, v2), key, vel, ch) : tNote.den)) = n at *
  refine ⟨fun ha => ?_, fun ha => ?_⟩
  · have hs : (out.drop i.toNat).any (fun x => decide (cmpN x n = 0)) = (decide (cmpN (out.getD i.toNat tNote.zero) n = 0) || (out.drop (i + 1).toNat).any (fun x => decide (cmpN x n = 0))) := by
      rw [show (i + 1).toNat = i.toNat + 1 by omega, List.drop_eq_getElem_cons (by omega : i.toNat < out.length), List.any_cons, getD_lt _ _ _ (by omega)]
    rw [hs]
    have hgi := hg i.toNat (by omega)
    generalize (out.drop (i + 1).toNat).any (fun x => decide (cmpN x n = 0)) = q at *
    refine ⟨fun hb => ⟨by omega, by omega, ⟨by omega, hl, hn, hx⟩, by rw [hb]; rfl⟩, fun hb => ⟨by omega, ⟨by omega, hgi, hx⟩, by omega, by omega, ⟨by omega, hl, hn, hx⟩, ?_⟩⟩
    rw [hb, Bool.false_or]
    congr 1
  · rw [List.drop_eq_nil_of_le (by omega)]
    simp [Tree.ok, tyd_inj, packAV, AV.same, AV.same.sameL, encV, encS, enc, inK, Nd.ok, List.headD_cons, List.cons_append, List.nil_append, List.append_nil, true_and, and_true, Bool.true_and, Bool.and_true, loop_next, weakBs_nil, weakBs_cons, weakB_self, weakB_row, weakB_int, weakL_nil, weakL_unk, weakL_guess, isRow_own, isRow_unk, weakL_int, weakL_bool, weakL_str, weakL_own, weakL_view, weakL_nilS, noRow_int, noRow_bool, own_inj, LTree.val, cond_true, cond_false, Prod.mk.injEq, List.cons.injEq, AV.int.injEq, AV.bool.injEq, AV.str.injEq, AV.agg.injEq]
set_option maxHeartbeats 1000000 in
theorem loop_l18Draw_0 : LoopSat Try.prog Try.f63.ntmps (loopAt Try.f63 0) ann_l18Draw_0 := by
  refine loopSat_of (C := C_Ls) (L := (addL (firstId (loopAt Try.f63 1)) ann_l18Draw_1 (addL (firstId (loopAt Try.f63 0)) ann_l18Draw_0 noL))) (wr := false) mixedOk C_Ls_ok (loopsIn1 (b := loopAt Try.f63 1) (by kernel_rfl) (fun ann h => (Option.some.inj ((show (addL (firstId (loopAt Try.f63 1)) ann_l18Draw_1 (addL (firstId (loopAt Try.f63 0)) ann_l18Draw_0 noL)) (firstId (loopAt Try.f63 1)) = some ann_l18Draw_1 from by kernel_rfl).symm.trans h)) ▸ loop_l18Draw_1)) (fun d => match d.vals with | [_, .int _ k] => k.toNat | _ => 0) fun d p t hG hp => ?_
  simp only [ann_l18Draw_0] at hG
  split at hG
  rotate_left
  · simp at hG
  rename_i out k code a sd
  simp only [Option.some.injEq, Prod.mk.injEq] at hG
  obtain ⟨rfl, rfl⟩ := hG
  have htree : exRound Try.prog C_Ls false (addL (firstId (loopAt Try.f63 1)) ann_l18Draw_1 (addL (firstId (loopAt Try.f63 0)) ann_l18Draw_0 noL)) Try.f63.ntmps ann_l18Draw_0 (loopAt Try.f63 0) ⟨[.ptr 700000 0, .ptr 4 0], [.box [.nilS]], [.own tNote out, .int .i64 k], [[.view (Ty.int .u8) code, .int .i64 a, .int .u64 sd]]⟩ = .ite (decide ((0 : Int) < k)) (.need (okS (code, a, sd) (700000000 : Int) ∧ (0 : Int) ≤ (6 : Int) ∧ (6 : Int) ≤ (1000 : Int)) (.need (((0 : Int) ≤ (0 : Int) ∧ (0 : Int) ≤ (↑out.length : Int)) ∧ out.length ≤ (100 : Nat) ∧ notesF out = true ∧ noteF (((noteS (code, a, sd) (6 : Int)).fst.fst.fst, (noteS (code, a, sd) (6 : Int)).fst.fst.snd), ((noteS (code, a, sd) (6 : Int)).fst.snd.fst.fst, (noteS (code, a, sd) (6 : Int)).fst.snd.fst.snd), (noteS (code, a, sd) (6 : Int)).fst.snd.snd.fst, (noteS (code, a, sd) (6 : Int)).fst.snd.snd.snd.fst, (noteS (code, a, sd) (6 : Int)).fst.snd.snd.snd.snd) = true) (.ite (!(false || (List.drop (Int.toNat (0 : Int)) out).any fun (x : (((Ty.int IntKind.i64).pair (Ty.int IntKind.i64)).pair (((Ty.int IntKind.i64).pair (Ty.int IntKind.i64)).pair ((Ty.int IntKind.i64).pair ((Ty.int IntKind.i64).pair (Ty.int IntKind.i64))))).den) => decide (cmpN x (((noteS (code, a, sd) (6 : Int)).fst.fst.fst, (noteS (code, a, sd) (6 : Int)).fst.fst.snd), ((noteS (code, a, sd) (6 : Int)).fst.snd.fst.fst, (noteS (code, a, sd) (6 : Int)).fst.snd.fst.snd), (noteS (code, a, sd) (6 : Int)).fst.snd.snd.fst, (noteS (code, a, sd) (6 : Int)).fst.snd.snd.snd.fst, (noteS (code, a, sd) (6 : Int)).fst.snd.snd.snd.snd) = (0 : Int)))) (.need (out.length + [(((noteS (code, a, sd) (6 : Int)).fst.fst.fst, (noteS (code, a, sd) (6 : Int)).fst.fst.snd), ((noteS (code, a, sd) (6 : Int)).fst.snd.fst.fst, (noteS (code, a, sd) (6 : Int)).fst.snd.fst.snd), (noteS (code, a, sd) (6 : Int)).fst.snd.snd.fst, (noteS (code, a, sd) (6 : Int)).fst.snd.snd.snd.fst, (noteS (code, a, sd) (6 : Int)).fst.snd.snd.snd.snd)].length ≤ (16777216 : Nat)) (.need (inK IntKind.i64 (k - (1 : Int))) (.leaf (.normal, ⟨[.ptr 700000 0, .ptr 4 0], [.box [.nilS]], [.own (tFrac.pair (tFrac.pair (I64.pair (I64.pair I64)))) (out ++ [(((noteS (code, a, sd) (6 : Int)).fst.fst.fst, (noteS (code, a, sd) (6 : Int)).fst.fst.snd), ((noteS (code, a, sd) (6 : Int)).fst.snd.fst.fst, (noteS (code, a, sd) (6 : Int)).fst.snd.fst.snd), (noteS (code, a, sd) (6 : Int)).fst.snd.snd.fst, (noteS (code, a, sd) (6 : Int)).fst.snd.snd.snd.fst, (noteS (code, a, sd) (6 : Int)).fst.snd.snd.snd.snd)]), .int .i64 (k - (1 : Int))], [[.view (Ty.int IntKind.u8) ((noteS (code, a, sd) (6 : Int)).snd.fst), .int .i64 ((noteS (code, a, sd) (6 : Int)).snd.snd.fst), .int .u64 ((noteS (code, a, sd) (6 : Int)).snd.snd.snd)]]⟩)))) (.need (inK IntKind.i64 (k - (1 : Int))) (.leaf (.normal, ⟨[.ptr 700000 0, .ptr 4 0], [.box [.nilS]], [.own (tFrac.pair (tFrac.pair (I64.pair (I64.pair I64)))) (out), .int .i64 (k - (1 : Int))], [[.view (Ty.int IntKind.u8) ((noteS (code, a, sd) (6 : Int)).snd.fst), .int .i64 ((noteS (code, a, sd) (6 : Int)).snd.snd.fst), .int .u64 ((noteS (code, a, sd) (6 : Int)).snd.snd.snd)]]⟩)))))) (.leaf ((.exit 0), ⟨[.ptr 700000 0, .ptr 4 0], [.box [.nilS]], [.own (tFrac.pair (tFrac.pair (I64.pair (I64.pair I64)))) (out), .int .i64 (k)], [[.view (Ty.int IntKind.u8) (code), .int .i64 (a), .int .u64 (sd)]]⟩)) := by kernel_rfl
  rw [htree]
  clear htree
  replace hp : (0 ≤ k ∧ k ≤ 100) ∧ (out.length : Int) + k ≤ 100 ∧ okS (code, a, sd) (600003000 - 20 * k) ∧ notesF out = true := hp
  have eta : ∀ s : Src, (s.1, s.2.1, s.2.2) = s := fun _ => rfl
  have etan : ∀ x : tNote.den, (((x.1.1, x.1.2), (x.2.1.1, x.2.1.2), x.2.2.1, x.2.2.2.1, x.2.2.2.2) : tNote.den) = x := fun _ => rfl
  obtain ⟨hk, hl, ho, hn⟩ := hp
  obtain ⟨A, L, hN⟩ := note24 ho (most := 6) (by omega)
  have hv := hN.valid
  have h0 := noteS_ok ho 6
  simp only [Tree.ok, tyd_inj, packAV, AV.same, AV.same.sameL, encV, encS, enc, inK, Nd.ok, List.headD_cons, List.cons_append, List.nil_append, List.append_nil, true_and, and_true, Bool.true_and, Bool.and_true, loop_next, weakBs_nil, weakBs_cons, weakB_self, weakB_row, weakB_int, weakL_nil, weakL_unk, weakL_guess, isRow_own, isRow_unk, weakL_int, weakL_bool, weakL_str, weakL_own, weakL_view, weakL_nilS, noRow_int, noRow_bool, own_inj, LTree.val, cond_true, cond_false, Prod.mk.injEq, List.cons.injEq, AV.int.injEq, AV.bool.injEq, AV.str.injEq, AV.agg.injEq, ann_l18Draw_0, eta, etan, decide_eq_true_eq, decide_eq_false_iff_not]
  refine ⟨fun hk0 => ?_, fun hk0 => ?_⟩
  · have eD : drawN k.toNat (code, a, sd) out = drawN (k - 1).toNat (noteS (code, a, sd) 6).2 (addN out (noteS (code, a, sd) 6).1) := by
      rw [show k.toNat = (k - 1).toNat + 1 by omega]; rfl
    have eA : addN out (noteS (code, a, sd) 6).1 = if out.any (fun x => decide (cmpN x (noteS (code, a, sd) 6).1 = 0)) = true then out else out ++ [(noteS (code, a, sd) 6).1] := rfl
    rw [eD, eA]
    have ho7 := ho.mono (show 600003000 - 20 * k ≤ 700000000 by omega)
    have h1 := h0.mono (show 600003000 - 20 * k + 14 ≤ 600003000 - 20 * (k - 1) by omega)
    clear eD eA hN h0
    generalize noteS (code, a, sd) 6 = n at *
    have ed : out.drop (Int.toNat 0) = out := rfl
    have hn1 : notesF (out ++ [n.1]) = true := by
      unfold notesF at *
      rw [List.all_append, hn, List.all_cons, hv]; rfl
    simp only [ed, Bool.false_or, List.length_append, List.length_cons, List.length_nil]
    clear ed etan eta
    refine ⟨⟨ho7, by decide, by decide⟩, ⟨by omega, by omega, hn, hv⟩, ?_⟩
    cases hb : out.any (fun x => decide (cmpN x n.1 = 0))
    · simp only [Bool.false_eq_true, if_false]
      refine ⟨fun _ => ⟨by omega, by omega, by omega, ⟨by omega, by omega, h1, hn1⟩, by simp⟩, fun h => absurd h (by decide)⟩
    · simp only [if_true]
      refine ⟨fun h => absurd h (by decide), fun _ => ⟨by omega, by omega, ⟨by omega, by omega, h1, hn⟩, by simp⟩⟩
  · obtain rfl : k = 0 := by omega
    simp [Tree.ok, tyd_inj, packAV, AV.same, AV.same.sameL, encV, encS, enc, inK, Nd.ok, List.headD_cons, List.cons_append, List.nil_append, List.append_nil, true_and, and_true, Bool.true_and, Bool.and_true, loop_next, weakBs_nil, weakBs_cons, weakB_self, weakB_row, weakB_int, weakL_nil, weakL_unk, weakL_guess, isRow_own, isRow_unk, weakL_int, weakL_bool, weakL_str, weakL_own, weakL_view, weakL_nilS, noRow_int, noRow_bool, own_inj, LTree.val, cond_true, cond_false, Prod.mk.injEq, List.cons.injEq, AV.int.injEq, AV.bool.injEq, AV.str.injEq, AV.agg.injEq, drawN]
theorem loops_l18Draw : ∀ c, Try.f63.body = some c → LoopsOk Try.prog (addL (firstId (loopAt Try.f63 1)) ann_l18Draw_1 (addL (firstId (loopAt Try.f63 0)) ann_l18Draw_0 noL)) Try.f63.ntmps c := loopsN fun i hi ann h => by
  have hn : loopN Try.f63 = 2 := by kernel_rfl
  rw [hn] at hi
  exact match i, hi, h with
    | 0, _, h => (Option.some.inj ((show (addL (firstId (loopAt Try.f63 1)) ann_l18Draw_1 (addL (firstId (loopAt Try.f63 0)) ann_l18Draw_0 noL)) (firstId (loopAt Try.f63 0)) = some ann_l18Draw_0 from by kernel_rfl).symm.trans h)) ▸ loop_l18Draw_0
    | 1, _, h => (Option.some.inj ((show (addL (firstId (loopAt Try.f63 1)) ann_l18Draw_1 (addL (firstId (loopAt Try.f63 0)) ann_l18Draw_0 noL)) (firstId (loopAt Try.f63 1)) = some ann_l18Draw_1 from by kernel_rfl).symm.trans h)) ▸ loop_l18Draw_1
set_option maxHeartbeats 1000000 in
theorem sat_l18Draw : Sat Try.prog 63 ct_l18Draw := by
  refine sat_typedB (C := C_Ls) (L := (addL (firstId (loopAt Try.f63 1)) ann_l18Draw_1 (addL (firstId (loopAt Try.f63 0)) ann_l18Draw_0 noL))) (wr := false) mixedOk Try.func63 C_Ls_ok (loops_l18Draw) (fun _ _ => by first | rfl | (simp [ownsOf, ownsOf.ownsL, enc, encV, encS])) fun bx x hp => ?_
  obtain ⟨(code : List (Ty.int .u8).den), (a : Int), (sd : Int)⟩ := bx
  obtain ⟨(most : Int), _⟩ := x
  replace hp : okS (code, a, sd) 600000000 ∧ 0 ≤ most ∧ most ≤ 100 := hp
  have htree : exFuncB Try.prog C_Ls false (addL (firstId (loopAt Try.f63 1)) ann_l18Draw_1 (addL (firstId (loopAt Try.f63 0)) ann_l18Draw_0 noL)) Try.f63 (encA [.v (.int .i64)] (most, ())) ⟨tSrc, (code, a, sd)⟩ = .need (inK IntKind.i64 (most + (1 : Int))) (.need (okS (code, a, sd) (900000000 : Int) ∧ most + (1 : Int) ≤ (1000000 : Int)) (.need (((0 : Int) ≤ (pickS (code, a, sd) (most + (1 : Int))).fst ∧ (pickS (code, a, sd) (most + (1 : Int))).fst ≤ (100 : Int)) ∧ (↑(0 : Nat) : Int) + (pickS (code, a, sd) (most + (1 : Int))).fst ≤ (100 : Int) ∧ okS ((pickS (code, a, sd) (most + (1 : Int))).snd.fst, (pickS (code, a, sd) (most + (1 : Int))).snd.snd.fst, (pickS (code, a, sd) (most + (1 : Int))).snd.snd.snd) ((600003000 : Int) - (20 : Int) * (pickS (code, a, sd) (most + (1 : Int))).fst) ∧ notesF [] = true) (.need ((drawN (pickS (code, a, sd) (most + (1 : Int))).fst.toNat ((pickS (code, a, sd) (most + (1 : Int))).snd.fst, (pickS (code, a, sd) (most + (1 : Int))).snd.snd.fst, (pickS (code, a, sd) (most + (1 : Int))).snd.snd.snd) []).fst.length ≤ (1000 : Nat) ∧ AllOk goodN (drawN (pickS (code, a, sd) (most + (1 : Int))).fst.toNat ((pickS (code, a, sd) (most + (1 : Int))).snd.fst, (pickS (code, a, sd) (most + (1 : Int))).snd.snd.fst, (pickS (code, a, sd) (most + (1 : Int))).snd.snd.snd) []).fst) (.leaf ([.agg [.own (tFrac.pair (tFrac.pair (I64.pair (I64.pair I64)))) (srt ltN (drawN (pickS (code, a, sd) (most + (1 : Int))).fst.toNat ((pickS (code, a, sd) (most + (1 : Int))).snd.fst, (pickS (code, a, sd) (most + (1 : Int))).snd.snd.fst, (pickS (code, a, sd) (most + (1 : Int))).snd.snd.snd) []).fst)]], ⟨(Ty.int IntKind.u8).seq.pair ((Ty.int IntKind.i64).pair (Ty.int IntKind.u64)), ((drawN (pickS (code, a, sd) (most + (1 : Int))).fst.toNat ((pickS (code, a, sd) (most + (1 : Int))).snd.fst, (pickS (code, a, sd) (most + (1 : Int))).snd.snd.fst, (pickS (code, a, sd) (most + (1 : Int))).snd.snd.snd) []).snd.fst, (drawN (pickS (code, a, sd) (most + (1 : Int))).fst.toNat ((pickS (code, a, sd) (most + (1 : Int))).snd.fst, (pickS (code, a, sd) (most + (1 : Int))).snd.snd.fst, (pickS (code, a, sd) (most + (1 : Int))).snd.snd.snd) []).snd.snd.fst, (drawN (pickS (code, a, sd) (most + (1 : Int))).fst.toNat ((pickS (code, a, sd) (most + (1 : Int))).snd.fst, (pickS (code, a, sd) (most + (1 : Int))).snd.snd.fst, (pickS (code, a, sd) (most + (1 : Int))).snd.snd.snd) []).snd.snd.snd)⟩))))) := by kernel_rfl
  refine (congrArg (Tree.ok _) htree).mpr ?_
  clear htree
  have eta : ∀ s : Src, (s.1, s.2.1, s.2.2) = s := fun _ => rfl
  have hb := pickS_bd hp.1 (most + 1)
  have hb1 := hb.2.1 (by omega)
  have hq := (pickS_ok hp.1 (most + 1)).mono (show (600000000 : Int) + 2 ≤ 600003000 - 20 * (pickS (code, a, sd) (most + 1)).1 by omega)
  have hd := drawN_ok (pickS (code, a, sd) (most + 1)).1.toNat (l := []) hq rfl
  have e : scoreS (code, a, sd) most = (srt ltN (drawN (pickS (code, a, sd) (most + 1)).1.toNat (pickS (code, a, sd) (most + 1)).2 []).1, (drawN (pickS (code, a, sd) (most + 1)).1.toNat (pickS (code, a, sd) (most + 1)).2 []).2) := rfl
  have hg : AllOk goodN (drawN (pickS (code, a, sd) (most + 1)).1.toNat (pickS (code, a, sd) (most + 1)).2 []).1 := fun x hx => List.all_eq_true.1 hd.2.1 x hx
  have hl := hd.2.2
  simp only [Tree.ok, tyd_inj, packAV, AV.same, AV.same.sameL, encV, encS, enc, inK, Nd.ok, List.headD_cons, List.cons_append, List.nil_append, List.append_nil, true_and, and_true, Bool.true_and, Bool.and_true, eta, e]
  simp only [List.length_nil, Nat.zero_add] at hl
  refine ⟨by omega, ⟨hp.1.mono (by omega), by omega⟩, ⟨by omega, by simp; omega, hq, rfl⟩, ?_⟩
  refine ⟨?_, ?_⟩
  all_goals first | omega | exact hg | skip
  all_goals (repeat' apply And.intro)
  all_goals first | omega | exact hg | trivial | rfl
def C_Do_1 : FuncId → Option Ct := addC 63 ct_l18Draw C_Ls
theorem C_Do_1_ok : COk Try.prog C_Do_1 := addC_ok C_Ls_ok sat_l18Draw

def C_Do : FuncId → Option Ct := C_Do_1
theorem C_Do_ok : COk Try.prog C_Do := C_Do_1_ok
end Go.Proofs.Ytjgjcggecikdpaa
