/- Contracts: the pitch with a key that lies nearest on the line of fifths, of the program and the reference. Conditions: as each says. -/
import Derived.Test.YtkeckmdmmbeaiaaDoorPb
set_option linter.unusedSimpArgs false
set_option linter.unusedVariables false
namespace Go.Proofs.YtkeckmdmmbeaiaaDoor
open Go.RowKit Sx
set_option maxRecDepth 100000
set_option maxHeartbeats 1000000
abbrev SpS := Int × Int × Int × Int × Bool
def spRest (key st al : Int) : Int := key - natF st - al
def spOct (key st al : Int) : Int := spRest key st al / 12 - 1
def spFar (near st al : Int) : Int := max (fif7 st + 7 * al - near) (0 - (fif7 st + 7 * al - near))
def spTake (near st al : Int) (s : SpS) : Bool := !s.2.2.2.2 || (decide (spFar near st al < s.2.2.2.1) || (decide (spFar near st al = s.2.2.2.1) && decide (fif7 s.1 + 7 * s.2.1 < fif7 st + 7 * al)))
def spStep (key near st al : Int) (s : SpS) : SpS :=
  if spRest key st al % 12 ≠ 0 then s else if okP st al (spOct key st al) = false then s else if spTake near st al s = true then (st, al, spOct key st al, spFar near st al, true) else s
def spIn (key near st : Int) : Nat → Int → SpS → SpS
  | 0, _, s => s
  | n + 1, al, s => spIn key near st n (al + 1) (spStep key near st al s)
def spOut (key near : Int) : Nat → Int → SpS → SpS
  | 0, _, s => s
  | n + 1, st, s => spOut key near n (st + 1) (spIn key near st 5 (-2) s)
theorem spStep_bd (key near st al : Int) (s : SpS) (h0 : (0 ≤ st ∧ st ≤ 6) ∧ -2 ≤ al ∧ al ≤ 2) (h : (0 ≤ s.1 ∧ s.1 ≤ 6) ∧ -2 ≤ s.2.1 ∧ s.2.1 ≤ 2) : (0 ≤ (spStep key near st al s).1 ∧ (spStep key near st al s).1 ≤ 6) ∧ -2 ≤ (spStep key near st al s).2.1 ∧ (spStep key near st al s).2.1 ≤ 2 := by
  unfold spStep
  repeat' split
  all_goals first | exact h | exact h0
theorem spIn_bd (key near st : Int) (h0 : 0 ≤ st ∧ st ≤ 6) : ∀ (n : Nat) (al : Int) (s : SpS), -2 ≤ al → al + n ≤ 3 → (0 ≤ s.1 ∧ s.1 ≤ 6) ∧ -2 ≤ s.2.1 ∧ s.2.1 ≤ 2 → (0 ≤ (spIn key near st n al s).1 ∧ (spIn key near st n al s).1 ≤ 6) ∧ -2 ≤ (spIn key near st n al s).2.1 ∧ (spIn key near st n al s).2.1 ≤ 2
  | 0, _, _, _, _, h => h
  | n + 1, al, s, h1, h2, h => spIn_bd key near st h0 n (al + 1) _ (by omega) (by omega) (spStep_bd key near st al s ⟨h0, by omega⟩ h)
theorem spIn_go (key near st al : Int) (s : SpS) (h : al ≤ 2) : spIn key near st (3 - al).toNat al s = spIn key near st (3 - (al + 1)).toNat (al + 1) (spStep key near st al s) := by
  rw [show (3 - al).toNat = (3 - (al + 1)).toNat + 1 by omega]; rfl
theorem spOut_go (key near st : Int) (s : SpS) (h : st ≤ 6) : spOut key near (7 - st).toNat st s = spOut key near (7 - (st + 1)).toNat (st + 1) (spIn key near st 5 (-2) s) := by
  rw [show (7 - st).toNat = (7 - (st + 1)).toNat + 1 by omega]; rfl
def spBest (key near : Int) : SpS := spOut key near 7 0 (0, 0, 0, 0, false)
def ann_spellKey_0 : LAnn := { sameS := [0, 1, 4, 5], modS := [6, 7, 8], sameH := [4], modH := [5], base := 900000, nilE := [], nilB := [], G := fun
  | ⟨[.int .i64 key, .int .i64 near, .ptr 4 0, .ptr 5 0], [.box [.int .i64 z1, .int .i64 z2, .int .i64 z3]], [.int .i64 least, .bool found, .int .i64 st], [[.int .i64 bs, .int .i64 ba, .int .i64 bo]]⟩ => some (.p ((0 ≤ key ∧ key ≤ 127) ∧ (-20 ≤ near ∧ near ≤ 20) ∧ (0 ≤ st ∧ st ≤ 7) ∧ (0 ≤ bs ∧ bs ≤ 6) ∧ (-2 ≤ ba ∧ ba ≤ 2)), .leaf (.exit 0) [.int .i64 (spOut key near (7 - st).toNat st (bs, ba, bo, least, found)).2.2.2.1, .bool (spOut key near (7 - st).toNat st (bs, ba, bo, least, found)).2.2.2.2, .int .i64 7] [[.int .i64 (spOut key near (7 - st).toNat st (bs, ba, bo, least, found)).1, .int .i64 (spOut key near (7 - st).toNat st (bs, ba, bo, least, found)).2.1, .int .i64 (spOut key near (7 - st).toNat st (bs, ba, bo, least, found)).2.2.1]])
  | _ => none }
def ann_spellKey_1 : LAnn := { sameS := [0, 1, 4, 5, 8], modS := [6, 7, 9], sameH := [4], modH := [5], base := 900000, nilE := [], nilB := [], G := fun
  | ⟨[.int .i64 key, .int .i64 near, .ptr 4 0, .ptr 5 0, .int .i64 st], [.box [.int .i64 z1, .int .i64 z2, .int .i64 z3]], [.int .i64 least, .bool found, .int .i64 al], [[.int .i64 bs, .int .i64 ba, .int .i64 bo]]⟩ => some (.p ((0 ≤ key ∧ key ≤ 127) ∧ (-20 ≤ near ∧ near ≤ 20) ∧ (0 ≤ st ∧ st ≤ 6) ∧ (0 ≤ bs ∧ bs ≤ 6) ∧ (-2 ≤ ba ∧ ba ≤ 2) ∧ (-2 ≤ al ∧ al ≤ 3)), .leaf (.exit 2) [.int .i64 (spIn key near st (3 - al).toNat al (bs, ba, bo, least, found)).2.2.2.1, .bool (spIn key near st (3 - al).toNat al (bs, ba, bo, least, found)).2.2.2.2, .int .i64 3] [[.int .i64 (spIn key near st (3 - al).toNat al (bs, ba, bo, least, found)).1, .int .i64 (spIn key near st (3 - al).toNat al (bs, ba, bo, least, found)).2.1, .int .i64 (spIn key near st (3 - al).toNat al (bs, ba, bo, least, found)).2.2.1]])
  | _ => none }
def ct_spellKey : Ct := ctOf [.v (.int .i64), .v (.int .i64)] (fun ((key : Int), (near : Int), _) => .p ((0 ≤ key ∧ key ≤ 127) ∧ (-20 ≤ near ∧ near ≤ 20))) (fun ((key : Int), (near : Int), _) => .agg (enc tPitch ((spBest key near).1, (spBest key near).2.1, (spBest key near).2.2.1)))
set_option maxHeartbeats 1000000 in
theorem loop_spellKey_1 : LoopSat Tryd.prog Tryd.f99.ntmps (loopAt Tryd.f99 1) ann_spellKey_1 := by
  refine loopSat_of (C := C_Pb) (L := (addL (firstId (loopAt Tryd.f99 1)) ann_spellKey_1 (addL (firstId (loopAt Tryd.f99 0)) ann_spellKey_0 noL))) (wr := false) mixedOk C_Pb_ok (loopsIn0 (by kernel_rfl)) (fun d => match d.vals with | [_, _, .int _ al] => (3 - al).toNat | _ => 0) fun d p t hG hp => ?_
  simp only [ann_spellKey_1] at hG
  split at hG
  rotate_left
  · simp at hG
  rename_i key near st z1 z2 z3 least found al bs ba bo
  simp only [Option.some.injEq, Prod.mk.injEq] at hG
  obtain ⟨rfl, rfl⟩ := hG
  have htree : exRound Tryd.prog C_Pb false (addL (firstId (loopAt Tryd.f99 1)) ann_spellKey_1 (addL (firstId (loopAt Tryd.f99 0)) ann_spellKey_0 noL)) Tryd.f99.ntmps ann_spellKey_1 (loopAt Tryd.f99 1) ⟨[.int .i64 key, .int .i64 near, .ptr 4 0, .ptr 5 0, .int .i64 st], [.box [.int .i64 z1, .int .i64 z2, .int .i64 z3]], [.int .i64 least, .bool found, .int .i64 al], [[.int .i64 bs, .int .i64 ba, .int .i64 bo]]⟩ = .ite (decide (al ≤ (2 : Int))) (.need ((0 : Int) ≤ st ∧ st ≤ (1000 : Int)) (.need (inK IntKind.i64 (key - natF st)) (.need (inK IntKind.i64 (key - natF st - al)) (.need ((1 : Int) ≤ (12 : Int) ∧ (-9223372036854775807 : Int) ≤ key - natF st - al ∧ key - natF st - al ≤ (9223372036854775807 : Int)) (.need (inK IntKind.i64 ((key - natF st - al) / (12 : Int) - (1 : Int))) (.need ((1 : Int) ≤ (12 : Int) ∧ (12 : Int) ≤ (1000000000 : Int) ∧ (-4611686018427387904 : Int) ≤ key - natF st - al ∧ key - natF st - al ≤ (4611686018427387904 : Int)) (.ite ((key - natF st - al) % (12 : Int) != (0 : Int)) (.need (inK IntKind.i64 (al + (1 : Int))) (.leaf (.normal, ⟨[.int .i64 (key), .int .i64 (near), .ptr 4 0, .ptr 5 0, .int .i64 (st)], [.box [.int .i64 (z1), .int .i64 (z2), .int .i64 (z3)]], [.int .i64 (least), .bool (found), .int .i64 (al + (1 : Int))], [[.int .i64 (bs), .int .i64 (ba), .int .i64 (bo)]]⟩))) (.ite (!okP st al ((key - natF st - al) / (12 : Int) - (1 : Int))) (.need (inK IntKind.i64 (al + (1 : Int))) (.leaf (.normal, ⟨[.int .i64 (key), .int .i64 (near), .ptr 4 0, .ptr 5 0, .int .i64 (st)], [.box [.int .i64 (z1), .int .i64 (z2), .int .i64 (z3)]], [.int .i64 (least), .bool (found), .int .i64 (al + (1 : Int))], [[.int .i64 (bs), .int .i64 (ba), .int .i64 (bo)]]⟩))) (.need (((0 : Int) ≤ st ∧ st ≤ (6 : Int)) ∧ ((-1000 : Int) ≤ al ∧ al ≤ (1000 : Int)) ∧ (key - natF st - al) / (12 : Int) - (1 : Int) = (key - natF st - al) / (12 : Int) - (1 : Int)) (.need (inK IntKind.i64 (fif7 st + (7 : Int) * al - near)) (.need (inK IntKind.i64 ((0 : Int) - (fif7 st + (7 : Int) * al - near))) (.ite (!found) (.need (inK IntKind.i64 (al + (1 : Int))) (.leaf (.normal, ⟨[.int .i64 (key), .int .i64 (near), .ptr 4 0, .ptr 5 0, .int .i64 (st)], [.box [.int .i64 (z1), .int .i64 (z2), .int .i64 (z3)]], [.int .i64 (bif true then max (fif7 st + (7 : Int) * al - near) ((0 : Int) - (fif7 st + (7 : Int) * al - near)) else min (fif7 st + (7 : Int) * al - near) ((0 : Int) - (fif7 st + (7 : Int) * al - near))), .bool (true), .int .i64 (al + (1 : Int))], [[.int .i64 (st), .int .i64 (al), .int .i64 ((key - natF st - al) / (12 : Int) - (1 : Int))]]⟩))) (.ite (decide ((bif true then max (fif7 st + (7 : Int) * al - near) ((0 : Int) - (fif7 st + (7 : Int) * al - near)) else min (fif7 st + (7 : Int) * al - near) ((0 : Int) - (fif7 st + (7 : Int) * al - near))) < least)) (.need (inK IntKind.i64 (al + (1 : Int))) (.leaf (.normal, ⟨[.int .i64 (key), .int .i64 (near), .ptr 4 0, .ptr 5 0, .int .i64 (st)], [.box [.int .i64 (z1), .int .i64 (z2), .int .i64 (z3)]], [.int .i64 (bif true then max (fif7 st + (7 : Int) * al - near) ((0 : Int) - (fif7 st + (7 : Int) * al - near)) else min (fif7 st + (7 : Int) * al - near) ((0 : Int) - (fif7 st + (7 : Int) * al - near))), .bool (true), .int .i64 (al + (1 : Int))], [[.int .i64 (st), .int .i64 (al), .int .i64 ((key - natF st - al) / (12 : Int) - (1 : Int))]]⟩))) (.ite ((bif true then max (fif7 st + (7 : Int) * al - near) ((0 : Int) - (fif7 st + (7 : Int) * al - near)) else min (fif7 st + (7 : Int) * al - near) ((0 : Int) - (fif7 st + (7 : Int) * al - near))) == least) (.need (((0 : Int) ≤ st ∧ st ≤ (6 : Int)) ∧ ((-1000 : Int) ≤ al ∧ al ≤ (1000 : Int)) ∧ (key - natF st - al) / (12 : Int) - (1 : Int) = (key - natF st - al) / (12 : Int) - (1 : Int)) (.need (((0 : Int) ≤ bs ∧ bs ≤ (6 : Int)) ∧ ((-1000 : Int) ≤ ba ∧ ba ≤ (1000 : Int)) ∧ bo = bo) (.ite (decide (fif7 bs + (7 : Int) * ba < fif7 st + (7 : Int) * al)) (.need (inK IntKind.i64 (al + (1 : Int))) (.leaf (.normal, ⟨[.int .i64 (key), .int .i64 (near), .ptr 4 0, .ptr 5 0, .int .i64 (st)], [.box [.int .i64 (z1), .int .i64 (z2), .int .i64 (z3)]], [.int .i64 (bif true then max (fif7 st + (7 : Int) * al - near) ((0 : Int) - (fif7 st + (7 : Int) * al - near)) else min (fif7 st + (7 : Int) * al - near) ((0 : Int) - (fif7 st + (7 : Int) * al - near))), .bool (true), .int .i64 (al + (1 : Int))], [[.int .i64 (st), .int .i64 (al), .int .i64 ((key - natF st - al) / (12 : Int) - (1 : Int))]]⟩))) (.need (inK IntKind.i64 (al + (1 : Int))) (.leaf (.normal, ⟨[.int .i64 (key), .int .i64 (near), .ptr 4 0, .ptr 5 0, .int .i64 (st)], [.box [.int .i64 (z1), .int .i64 (z2), .int .i64 (z3)]], [.int .i64 (least), .bool (found), .int .i64 (al + (1 : Int))], [[.int .i64 (bs), .int .i64 (ba), .int .i64 (bo)]]⟩)))))) (.need (inK IntKind.i64 (al + (1 : Int))) (.leaf (.normal, ⟨[.int .i64 (key), .int .i64 (near), .ptr 4 0, .ptr 5 0, .int .i64 (st)], [.box [.int .i64 (z1), .int .i64 (z2), .int .i64 (z3)]], [.int .i64 (least), .bool (found), .int .i64 (al + (1 : Int))], [[.int .i64 (bs), .int .i64 (ba), .int .i64 (bo)]]⟩))))))))))))))))) (.leaf ((.exit 2), ⟨[.int .i64 (key), .int .i64 (near), .ptr 4 0, .ptr 5 0, .int .i64 (st)], [.box [.int .i64 (z1), .int .i64 (z2), .int .i64 (z3)]], [.int .i64 (least), .bool (found), .int .i64 (al)], [[.int .i64 (bs), .int .i64 (ba), .int .i64 (bo)]]⟩)) := by kernel_rfl
  rw [htree]
  clear htree
  replace hp : (0 ≤ key ∧ key ≤ 127) ∧ (-20 ≤ near ∧ near ≤ 20) ∧ (0 ≤ st ∧ st ≤ 6) ∧ (0 ≤ bs ∧ bs ≤ 6) ∧ (-2 ≤ ba ∧ ba ≤ 2) ∧ (-2 ≤ al ∧ al ≤ 3) := hp
  have h1 := natF_bd st (by omega) (by omega)
  simp only [Tree.ok, tyd_inj, packAV, AV.same, AV.same.sameL, encV, encS, enc, inK, Nd.ok, List.headD_cons, List.cons_append, List.nil_append, List.append_nil, true_and, and_true, Bool.true_and, Bool.and_true, loop_next, weakBs_nil, weakBs_cons, weakB_self, weakB_row, weakB_int, weakL_nil, weakL_unk, weakL_guess, isRow_own, isRow_unk, weakL_int, weakL_bool, weakL_str, weakL_own, weakL_view, weakL_nilS, noRow_int, noRow_bool, own_inj, LTree.val, cond_true, cond_false, Prod.mk.injEq, List.cons.injEq, AV.int.injEq, AV.bool.injEq, AV.str.injEq, AV.agg.injEq, ann_spellKey_1, decide_eq_true_eq, decide_eq_false_iff_not]
  refine ⟨fun ha => ?_, fun ha => ?_⟩
  · have h2 := fif7_bd st
    rw [spIn_go _ _ _ _ _ ha]
    generalize hF : spIn key near st (3 - (al + 1)).toNat (al + 1) = F
    repeat' first | apply And.intro | intro _
    all_goals grind [spStep, spTake, spFar, spOct, spRest]
  · obtain rfl : al = 3 := by omega
    simp [spIn]
set_option maxHeartbeats 1000000 in
theorem loop_spellKey_0 : LoopSat Tryd.prog Tryd.f99.ntmps (loopAt Tryd.f99 0) ann_spellKey_0 := by
  refine loopSat_of (C := C_Pb) (L := (addL (firstId (loopAt Tryd.f99 1)) ann_spellKey_1 (addL (firstId (loopAt Tryd.f99 0)) ann_spellKey_0 noL))) (wr := false) mixedOk C_Pb_ok (loopsIn1 (b := loopAt Tryd.f99 1) (by kernel_rfl) (fun ann h => (Option.some.inj ((show (addL (firstId (loopAt Tryd.f99 1)) ann_spellKey_1 (addL (firstId (loopAt Tryd.f99 0)) ann_spellKey_0 noL)) (firstId (loopAt Tryd.f99 1)) = some ann_spellKey_1 from by kernel_rfl).symm.trans h)) ▸ loop_spellKey_1)) (fun d => match d.vals with | [_, _, .int _ st] => (7 - st).toNat | _ => 0) fun d p t hG hp => ?_
  simp only [ann_spellKey_0] at hG
  split at hG
  rotate_left
  · simp at hG
  rename_i key near z1 z2 z3 least found st bs ba bo
  simp only [Option.some.injEq, Prod.mk.injEq] at hG
  obtain ⟨rfl, rfl⟩ := hG
  have htree : exRound Tryd.prog C_Pb false (addL (firstId (loopAt Tryd.f99 1)) ann_spellKey_1 (addL (firstId (loopAt Tryd.f99 0)) ann_spellKey_0 noL)) Tryd.f99.ntmps ann_spellKey_0 (loopAt Tryd.f99 0) ⟨[.int .i64 key, .int .i64 near, .ptr 4 0, .ptr 5 0], [.box [.int .i64 z1, .int .i64 z2, .int .i64 z3]], [.int .i64 least, .bool found, .int .i64 st], [[.int .i64 bs, .int .i64 ba, .int .i64 bo]]⟩ = .ite (decide (st ≤ (6 : Int))) (.need (((0 : Int) ≤ key ∧ key ≤ (127 : Int)) ∧ ((-20 : Int) ≤ near ∧ near ≤ (20 : Int)) ∧ ((0 : Int) ≤ st ∧ st ≤ (6 : Int)) ∧ ((0 : Int) ≤ bs ∧ bs ≤ (6 : Int)) ∧ ((-2 : Int) ≤ ba ∧ ba ≤ (2 : Int)) ∧ (-2 : Int) ≤ (-2 : Int) ∧ (-2 : Int) ≤ (3 : Int)) (.need (inK IntKind.i64 (st + (1 : Int))) (.leaf (.normal, ⟨[.int .i64 (key), .int .i64 (near), .ptr 4 0, .ptr 5 0], [.box [.int .i64 (z1), .int .i64 (z2), .int .i64 (z3)]], [.int .i64 ((spIn key near st ((3 : Int) - (-2 : Int)).toNat (-2 : Int) (bs, ba, bo, least, found)).snd.snd.snd.fst), .bool ((spIn key near st ((3 : Int) - (-2 : Int)).toNat (-2 : Int) (bs, ba, bo, least, found)).snd.snd.snd.snd), .int .i64 (st + (1 : Int))], [[.int .i64 ((spIn key near st ((3 : Int) - (-2 : Int)).toNat (-2 : Int) (bs, ba, bo, least, found)).fst), .int .i64 ((spIn key near st ((3 : Int) - (-2 : Int)).toNat (-2 : Int) (bs, ba, bo, least, found)).snd.fst), .int .i64 ((spIn key near st ((3 : Int) - (-2 : Int)).toNat (-2 : Int) (bs, ba, bo, least, found)).snd.snd.fst)]]⟩)))) (.leaf ((.exit 0), ⟨[.int .i64 (key), .int .i64 (near), .ptr 4 0, .ptr 5 0], [.box [.int .i64 (z1), .int .i64 (z2), .int .i64 (z3)]], [.int .i64 (least), .bool (found), .int .i64 (st)], [[.int .i64 (bs), .int .i64 (ba), .int .i64 (bo)]]⟩)) := by kernel_rfl
  rw [htree]
  clear htree
  replace hp : (0 ≤ key ∧ key ≤ 127) ∧ (-20 ≤ near ∧ near ≤ 20) ∧ (0 ≤ st ∧ st ≤ 7) ∧ (0 ≤ bs ∧ bs ≤ 6) ∧ (-2 ≤ ba ∧ ba ≤ 2) := hp
  simp only [Tree.ok, tyd_inj, packAV, AV.same, AV.same.sameL, encV, encS, enc, inK, Nd.ok, List.headD_cons, List.cons_append, List.nil_append, List.append_nil, true_and, and_true, Bool.true_and, Bool.and_true, loop_next, weakBs_nil, weakBs_cons, weakB_self, weakB_row, weakB_int, weakL_nil, weakL_unk, weakL_guess, isRow_own, isRow_unk, weakL_int, weakL_bool, weakL_str, weakL_own, weakL_view, weakL_nilS, noRow_int, noRow_bool, own_inj, LTree.val, cond_true, cond_false, Prod.mk.injEq, List.cons.injEq, AV.int.injEq, AV.bool.injEq, AV.str.injEq, AV.agg.injEq, ann_spellKey_0, decide_eq_true_eq, decide_eq_false_iff_not]
  refine ⟨fun ha => ?_, fun ha => ?_⟩
  · have h2 := spIn_bd key near st (by omega) 5 (-2) (bs, ba, bo, least, found) (by omega) (by omega) ⟨by simp only; omega, by simp only; omega⟩
    rw [spOut_go _ _ _ _ ha, show ((3 : Int) - -2).toNat = 5 from rfl]
    refine ⟨by omega, by omega, by omega, ?_, ?_⟩
    · omega
    · exact ⟨⟨rfl, rfl⟩, rfl, rfl, rfl⟩
  · obtain rfl : st = 7 := by omega
    simp [spOut]
theorem loops_spellKey : ∀ c, Tryd.f99.body = some c → LoopsOk Tryd.prog (addL (firstId (loopAt Tryd.f99 1)) ann_spellKey_1 (addL (firstId (loopAt Tryd.f99 0)) ann_spellKey_0 noL)) Tryd.f99.ntmps c := loopsN fun i hi ann h => by
  have hn : loopN Tryd.f99 = 2 := by kernel_rfl
  rw [hn] at hi
  exact match i, hi, h with
    | 0, _, h => (Option.some.inj ((show (addL (firstId (loopAt Tryd.f99 1)) ann_spellKey_1 (addL (firstId (loopAt Tryd.f99 0)) ann_spellKey_0 noL)) (firstId (loopAt Tryd.f99 0)) = some ann_spellKey_0 from by kernel_rfl).symm.trans h)) ▸ loop_spellKey_0
    | 1, _, h => (Option.some.inj ((show (addL (firstId (loopAt Tryd.f99 1)) ann_spellKey_1 (addL (firstId (loopAt Tryd.f99 0)) ann_spellKey_0 noL)) (firstId (loopAt Tryd.f99 1)) = some ann_spellKey_1 from by kernel_rfl).symm.trans h)) ▸ loop_spellKey_1
set_option maxHeartbeats 1000000 in
theorem sat_spellKey : Sat Tryd.prog 99 ct_spellKey := by
  refine sat_typed (C := C_Pb) (L := (addL (firstId (loopAt Tryd.f99 1)) ann_spellKey_1 (addL (firstId (loopAt Tryd.f99 0)) ann_spellKey_0 noL))) (wr := false) mixedOk Tryd.func99 C_Pb_ok (loops_spellKey) (fun _ => by first | rfl | (simp [ownsOf, ownsOf.ownsL, enc, encV, encS])) fun x hp => ?_
  obtain ⟨(key : Int), (near : Int), _⟩ := x
  replace hp : (0 ≤ key ∧ key ≤ 127) ∧ (-20 ≤ near ∧ near ≤ 20) := hp
  have htree : exFunc Tryd.prog C_Pb false (addL (firstId (loopAt Tryd.f99 1)) ann_spellKey_1 (addL (firstId (loopAt Tryd.f99 0)) ann_spellKey_0 noL)) Tryd.f99 (encA [.v (.int .i64), .v (.int .i64)] (key, near, ())) = .need (((0 : Int) ≤ key ∧ key ≤ (127 : Int)) ∧ ((-20 : Int) ≤ near ∧ near ≤ (20 : Int)) ∧ ((0 : Int) ≤ (0 : Int) ∧ (0 : Int) ≤ (7 : Int)) ∧ ((0 : Int) ≤ (0 : Int) ∧ (0 : Int) ≤ (6 : Int)) ∧ (-2 : Int) ≤ (0 : Int) ∧ (0 : Int) ≤ (2 : Int)) (.leaf [.agg [.int .i64 ((spOut key near ((7 : Int) - (0 : Int)).toNat (0 : Int) ((0 : Int), (0 : Int), (0 : Int), (0 : Int), false)).fst), .int .i64 ((spOut key near ((7 : Int) - (0 : Int)).toNat (0 : Int) ((0 : Int), (0 : Int), (0 : Int), (0 : Int), false)).snd.fst), .int .i64 ((spOut key near ((7 : Int) - (0 : Int)).toNat (0 : Int) ((0 : Int), (0 : Int), (0 : Int), (0 : Int), false)).snd.snd.fst)]]) := by kernel_rfl
  refine (congrArg (Tree.ok _) htree).mpr ?_
  clear htree
  simp only [Tree.ok, tyd_inj, packAV, AV.same, AV.same.sameL, encV, encS, enc, inK, Nd.ok, List.headD_cons, List.cons_append, List.nil_append, List.append_nil, true_and, and_true, Bool.true_and, Bool.and_true]
  exact ⟨by omega, by simp [spBest]⟩
def C_Pc_1 : FuncId → Option Ct := addC 99 ct_spellKey C_Pb
theorem C_Pc_1_ok : COk Tryd.prog C_Pc_1 := addC_ok C_Pb_ok sat_spellKey
abbrev SqS := Int × Int × Int × Int
def sqAl (key st oc : Int) : Int := key - keyF st 0 oc
def sqStep (key near st oc : Int) (s : SqS) : SqS :=
  if okP st (sqAl key st oc) oc = false then s else if spFar near st (sqAl key st oc) < s.2.2.2 ∨ (spFar near st (sqAl key st oc) = s.2.2.2 ∧ 0 < fif7 st + 7 * sqAl key st oc - near) then (st, sqAl key st oc, oc, spFar near st (sqAl key st oc)) else s
def sqIn (key near oc : Int) : Nat → Int → SqS → SqS
  | 0, _, s => s
  | n + 1, st, s => sqIn key near oc n (st + 1) (sqStep key near st oc s)
def sqOut (key near : Int) : Nat → Int → SqS → SqS
  | 0, _, s => s
  | n + 1, oc, s => sqOut key near n (oc + 1) (sqIn key near oc 7 0 s)
def sqBest (key near : Int) : SqS := sqOut key near 11 (-1) (0, 0, 0, 1000)
theorem sqIn_go (key near oc st : Int) (s : SqS) (h : st < 7) : sqIn key near oc (7 - st).toNat st s = sqIn key near oc (7 - (st + 1)).toNat (st + 1) (sqStep key near st oc s) := by
  rw [show (7 - st).toNat = (7 - (st + 1)).toNat + 1 by omega]; rfl
theorem sqOut_go (key near oc : Int) (s : SqS) (h : oc ≤ 9) : sqOut key near (10 - oc).toNat oc s = sqOut key near (10 - (oc + 1)).toNat (oc + 1) (sqIn key near oc 7 0 s) := by
  rw [show (10 - oc).toNat = (10 - (oc + 1)).toNat + 1 by omega]; rfl
def spellS (key near : Int) : (Int × Int × Int) × Int := if inB key 0 127 = true ∧ inB near (-20) 20 = true then (((sqBest key near).1, (sqBest key near).2.1, (sqBest key near).2.2.1), 0) else ((0, 0, 0), 2)
def spellI (key near : Int) : (Int × Int × Int) × Int := if inB key 0 127 = true ∧ inB near (-20) 20 = true then (((spBest key near).1, (spBest key near).2.1, (spBest key near).2.2.1), 0) else ((0, 0, 0), 2)
def ct_iSpellKey : Ct := ctOf [.v (.int .i64), .v (.int .i64)] (fun _ => .tt) (fun ((key : Int), (near : Int), _) => .tup [.agg (enc tPitch (spellI key near).1), .int .i64 (spellI key near).2])
set_option maxHeartbeats 1000000 in
theorem sat_iSpellKey : Sat Tryd.prog 45 ct_iSpellKey := by
  refine sat_typed (C := C_Pc_1) (L := noL) (wr := false) mixedOk Tryd.func45 C_Pc_1_ok (loops0 (by kernel_rfl)) (fun _ => by first | rfl | (simp [ownsOf, ownsOf.ownsL, enc, encV, encS])) fun x hp => ?_
  obtain ⟨(key : Int), (near : Int), _⟩ := x
  clear hp
  have htree : exFunc Tryd.prog C_Pc_1 false noL Tryd.f45 (encA [.v (.int .i64), .v (.int .i64)] (key, near, ())) = .ite (!inB key (0 : Int) (127 : Int)) (.leaf [.agg [.int .i64 ((0 : Int)), .int .i64 ((0 : Int)), .int .i64 ((0 : Int))], .int .i64 ((2 : Int))]) (.ite (!inB near (-20 : Int) (20 : Int)) (.leaf [.agg [.int .i64 ((0 : Int)), .int .i64 ((0 : Int)), .int .i64 ((0 : Int))], .int .i64 ((2 : Int))]) (.need (((0 : Int) ≤ key ∧ key ≤ (127 : Int)) ∧ (-20 : Int) ≤ near ∧ near ≤ (20 : Int)) (.leaf [.agg [.int .i64 ((spBest key near).fst), .int .i64 ((spBest key near).snd.fst), .int .i64 ((spBest key near).snd.snd.fst)], .int .i64 ((0 : Int))]))) := by kernel_rfl
  refine (congrArg (Tree.ok _) htree).mpr ?_
  clear htree
  simp only [Tree.ok, tyd_inj, packAV, AV.same, AV.same.sameL, encV, encS, enc, inK, Nd.ok, List.headD_cons, List.cons_append, List.nil_append, List.append_nil, true_and, and_true, Bool.true_and, Bool.and_true]
  repeat' first | apply And.intro | intro _
  all_goals grind [spellI, inB]
def C_Pc_2 : FuncId → Option Ct := addC 45 ct_iSpellKey C_Pc_1
theorem C_Pc_2_ok : COk Tryd.prog C_Pc_2 := addC_ok C_Pc_1_ok sat_iSpellKey

def C_Pc : FuncId → Option Ct := C_Pc_2
theorem C_Pc_ok : COk Tryd.prog C_Pc := C_Pc_2_ok
end Go.Proofs.YtkeckmdmmbeaiaaDoor
