/- Contracts: tempo maps drawn from bytes. Conditions: as each says. -/
import Derived.Test.YtkeckmdmmbeaiaaGreatDoorDs
set_option linter.unusedSimpArgs false
set_option linter.unusedVariables false
namespace Go.Proofs.YtkeckmdmmbeaiaaGreatDoor
open Go.RowKit Sx
set_option maxRecDepth 100000
set_option maxHeartbeats 1000000
def sampL : List Int := [1, 7, 12, 24, 48, 60, 100, 1000]
/-- The step from a beat to the next one: never 0. -/
def stepS (s : Src) : Fr × Src := (if (beatS s 3).1.1 = 0 then (1, 2) else (beatS s 3).1, (beatS s 3).2)
theorem stepS_ok {s : Src} {m : Int} (h : okS s m) : okS (stepS s).2 (m + 4) := beatS_ok h 3
theorem stepS_bd {s : Src} {m : Int} (h : okS s m) :
    okF (stepS s).1.1 (stepS s).1.2 = true ∧ 1 ≤ (stepS s).1.1 ∧ (stepS s).1.1 ≤ 3 * (stepS s).1.2 ∧ (stepS s).1.2 ≤ 8 := by
  have hb := beatS_bd h (most := 3) (by omega)
  unfold stepS
  split
  · exact ⟨show okF 1 2 = true by decide, by simp, by simp, by simp⟩
  · exact ⟨hb.1, by simp only; omega, hb.2.2.1, hb.2.2.2⟩
def drawT : Nat → Src → Fr → List tTempo.den × Src
  | 0, s, _ => ([], s)
  | n + 1, s, b =>
    (((b, (amongS s sampL).1) : tTempo.den) :: (drawT n (stepS (amongS s sampL).2).2 (addF b.1 b.2 (stepS (amongS s sampL).2).1.1 (stepS (amongS s sampL).2).1.2).1).1,
      (drawT n (stepS (amongS s sampL).2).2 (addF b.1 b.2 (stepS (amongS s sampL).2).1.1 (stepS (amongS s sampL).2).1.2).1).2)
theorem drawT_ok : ∀ (n : Nat) {s : Src} {m : Int} (b : Fr), okS s m → okS (drawT n s b).2 (m + 6 * n)
  | 0, _, _, _, h => h.mono (by omega)
  | n + 1, s, m, b, h => by
    have := drawT_ok n (addF b.1 b.2 (stepS (amongS s sampL).2).1.1 (stepS (amongS s sampL).2).1.2).1 (stepS_ok (amongS_ok h sampL))
    exact this.mono (by omega)
def tmapS (s : Src) : List tTempo.den × Src := drawT (1 + (pickS s 4).1).toNat (pickS s 4).2 (0, 1)
def ann_l17Draw_0 : LAnn := { sameS := [0, 2, 3, 4], modS := [5], sameH := [2], modH := [3, 4, 700000], base := 900000, nilE := [], nilB := [⟨3, 0, 800000, tTempo⟩], G := fun
  | ⟨[.ptr 700000 0, .ptr 2 0, .ptr 3 0, .ptr 4 0], [.box [.nilS]], [.int .i64 k], [[.own (.pair (.pair (.int .i64) (.int .i64)) (.int .i64)) out], [.int .i64 u, .int .i64 v], [.view (Ty.int .u8) code, .int .i64 a, .int .u64 sd]]⟩ => some (.p ((0 ≤ k ∧ k ≤ 4) ∧ (out.length : Int) + k ≤ 4 ∧ okS (code, a, sd) (700000050 - 10 * k)), .leaf (.exit 0) [.int .i64 0] [[.own tTempo (out ++ (drawT k.toNat (code, a, sd) (u, v)).1)], [.unk, .unk], [.view (Ty.int .u8) (drawT k.toNat (code, a, sd) (u, v)).2.1, .int .i64 (drawT k.toNat (code, a, sd) (u, v)).2.2.1, .int .u64 (drawT k.toNat (code, a, sd) (u, v)).2.2.2]])
  | _ => none }
def ct_l17Draw : Ct := ctOfB tSrc [] (fun ((code : List (Ty.int .u8).den), (a : Int), (sd : Int)) _ => .p (okS (code, a, sd) 700000000)) (fun ((code : List (Ty.int .u8).den), (a : Int), (sd : Int)) _ => .agg [.own tTempo (tmapS (code, a, sd)).1]) (fun ((code : List (Ty.int .u8).den), (a : Int), (sd : Int)) _ => (tmapS (code, a, sd)).2)
set_option maxHeartbeats 1000000 in
theorem loop_l17Draw_0 : LoopSat Tryz.prog Tryz.f55.ntmps (loopAt Tryz.f55 0) ann_l17Draw_0 := by
  refine loopSat_of (C := C_Ds) (L := (addL (firstId (loopAt Tryz.f55 0)) ann_l17Draw_0 noL)) (wr := false) mixedOk C_Ds_ok (loopsIn0 (by kernel_rfl)) (fun d => match d.vals with | [.int _ k] => k.toNat | _ => 0) fun d p t hG hp => ?_
  simp only [ann_l17Draw_0] at hG
  split at hG
  rotate_left
  · simp at hG
  rename_i k out u v code a sd
  simp only [Option.some.injEq, Prod.mk.injEq] at hG
  obtain ⟨rfl, rfl⟩ := hG
  have htree : exRound Tryz.prog C_Ds false (addL (firstId (loopAt Tryz.f55 0)) ann_l17Draw_0 noL) Tryz.f55.ntmps ann_l17Draw_0 (loopAt Tryz.f55 0) ⟨[.ptr 700000 0, .ptr 2 0, .ptr 3 0, .ptr 4 0], [.box [.nilS]], [.int .i64 k], [[.own tTempo out], [.int .i64 u, .int .i64 v], [.view (Ty.int .u8) code, .int .i64 a, .int .u64 sd]]⟩ = .ite (decide ((0 : Int) < k)) (.need (okS (code, a, sd) (900000000 : Int) ∧ (1 : Int) ≤ (↑[(1 : Int), (7 : Int), (12 : Int), (24 : Int), (48 : Int), (60 : Int), (100 : Int), (1000 : Int)].length : Int) ∧ (↑[(1 : Int), (7 : Int), (12 : Int), (24 : Int), (48 : Int), (60 : Int), (100 : Int), (1000 : Int)].length : Int) ≤ (1000000 : Int)) (.need (out.length + [((u, v), (amongS (code, a, sd) [(1 : Int), (7 : Int), (12 : Int), (24 : Int), (48 : Int), (60 : Int), (100 : Int), (1000 : Int)]).fst)].length ≤ (16777216 : Nat)) (.need (okS ((amongS (code, a, sd) [(1 : Int), (7 : Int), (12 : Int), (24 : Int), (48 : Int), (60 : Int), (100 : Int), (1000 : Int)]).snd.fst, (amongS (code, a, sd) [(1 : Int), (7 : Int), (12 : Int), (24 : Int), (48 : Int), (60 : Int), (100 : Int), (1000 : Int)]).snd.snd.fst, (amongS (code, a, sd) [(1 : Int), (7 : Int), (12 : Int), (24 : Int), (48 : Int), (60 : Int), (100 : Int), (1000 : Int)]).snd.snd.snd) (800000000 : Int) ∧ (0 : Int) ≤ (3 : Int) ∧ (3 : Int) ≤ (1000 : Int)) (.ite ((beatS ((amongS (code, a, sd) [(1 : Int), (7 : Int), (12 : Int), (24 : Int), (48 : Int), (60 : Int), (100 : Int), (1000 : Int)]).snd.fst, (amongS (code, a, sd) [(1 : Int), (7 : Int), (12 : Int), (24 : Int), (48 : Int), (60 : Int), (100 : Int), (1000 : Int)]).snd.snd.fst, (amongS (code, a, sd) [(1 : Int), (7 : Int), (12 : Int), (24 : Int), (48 : Int), (60 : Int), (100 : Int), (1000 : Int)]).snd.snd.snd) (3 : Int)).fst.fst == (0 : Int)) (.need (inK IntKind.i64 (k - (1 : Int))) (.leaf (.normal, ⟨[.ptr 700000 0, .ptr 2 0, .ptr 3 0, .ptr 4 0], [.box [.nilS]], [.int .i64 (k - (1 : Int))], [[.own (tFrac.pair I64) (out ++ [((u, v), (amongS (code, a, sd) [(1 : Int), (7 : Int), (12 : Int), (24 : Int), (48 : Int), (60 : Int), (100 : Int), (1000 : Int)]).fst)])], [.int .i64 ((addF u v (1 : Int) (2 : Int)).fst.fst), .int .i64 ((addF u v (1 : Int) (2 : Int)).fst.snd)], [.view (Ty.int IntKind.u8) ((beatS ((amongS (code, a, sd) [(1 : Int), (7 : Int), (12 : Int), (24 : Int), (48 : Int), (60 : Int), (100 : Int), (1000 : Int)]).snd.fst, (amongS (code, a, sd) [(1 : Int), (7 : Int), (12 : Int), (24 : Int), (48 : Int), (60 : Int), (100 : Int), (1000 : Int)]).snd.snd.fst, (amongS (code, a, sd) [(1 : Int), (7 : Int), (12 : Int), (24 : Int), (48 : Int), (60 : Int), (100 : Int), (1000 : Int)]).snd.snd.snd) (3 : Int)).snd.fst), .int .i64 ((beatS ((amongS (code, a, sd) [(1 : Int), (7 : Int), (12 : Int), (24 : Int), (48 : Int), (60 : Int), (100 : Int), (1000 : Int)]).snd.fst, (amongS (code, a, sd) [(1 : Int), (7 : Int), (12 : Int), (24 : Int), (48 : Int), (60 : Int), (100 : Int), (1000 : Int)]).snd.snd.fst, (amongS (code, a, sd) [(1 : Int), (7 : Int), (12 : Int), (24 : Int), (48 : Int), (60 : Int), (100 : Int), (1000 : Int)]).snd.snd.snd) (3 : Int)).snd.snd.fst), .int .u64 ((beatS ((amongS (code, a, sd) [(1 : Int), (7 : Int), (12 : Int), (24 : Int), (48 : Int), (60 : Int), (100 : Int), (1000 : Int)]).snd.fst, (amongS (code, a, sd) [(1 : Int), (7 : Int), (12 : Int), (24 : Int), (48 : Int), (60 : Int), (100 : Int), (1000 : Int)]).snd.snd.fst, (amongS (code, a, sd) [(1 : Int), (7 : Int), (12 : Int), (24 : Int), (48 : Int), (60 : Int), (100 : Int), (1000 : Int)]).snd.snd.snd) (3 : Int)).snd.snd.snd)]]⟩))) (.need (inK IntKind.i64 (k - (1 : Int))) (.leaf (.normal, ⟨[.ptr 700000 0, .ptr 2 0, .ptr 3 0, .ptr 4 0], [.box [.nilS]], [.int .i64 (k - (1 : Int))], [[.own (tFrac.pair I64) (out ++ [((u, v), (amongS (code, a, sd) [(1 : Int), (7 : Int), (12 : Int), (24 : Int), (48 : Int), (60 : Int), (100 : Int), (1000 : Int)]).fst)])], [.int .i64 ((addF u v (beatS ((amongS (code, a, sd) [(1 : Int), (7 : Int), (12 : Int), (24 : Int), (48 : Int), (60 : Int), (100 : Int), (1000 : Int)]).snd.fst, (amongS (code, a, sd) [(1 : Int), (7 : Int), (12 : Int), (24 : Int), (48 : Int), (60 : Int), (100 : Int), (1000 : Int)]).snd.snd.fst, (amongS (code, a, sd) [(1 : Int), (7 : Int), (12 : Int), (24 : Int), (48 : Int), (60 : Int), (100 : Int), (1000 : Int)]).snd.snd.snd) (3 : Int)).fst.fst (beatS ((amongS (code, a, sd) [(1 : Int), (7 : Int), (12 : Int), (24 : Int), (48 : Int), (60 : Int), (100 : Int), (1000 : Int)]).snd.fst, (amongS (code, a, sd) [(1 : Int), (7 : Int), (12 : Int), (24 : Int), (48 : Int), (60 : Int), (100 : Int), (1000 : Int)]).snd.snd.fst, (amongS (code, a, sd) [(1 : Int), (7 : Int), (12 : Int), (24 : Int), (48 : Int), (60 : Int), (100 : Int), (1000 : Int)]).snd.snd.snd) (3 : Int)).fst.snd).fst.fst), .int .i64 ((addF u v (beatS ((amongS (code, a, sd) [(1 : Int), (7 : Int), (12 : Int), (24 : Int), (48 : Int), (60 : Int), (100 : Int), (1000 : Int)]).snd.fst, (amongS (code, a, sd) [(1 : Int), (7 : Int), (12 : Int), (24 : Int), (48 : Int), (60 : Int), (100 : Int), (1000 : Int)]).snd.snd.fst, (amongS (code, a, sd) [(1 : Int), (7 : Int), (12 : Int), (24 : Int), (48 : Int), (60 : Int), (100 : Int), (1000 : Int)]).snd.snd.snd) (3 : Int)).fst.fst (beatS ((amongS (code, a, sd) [(1 : Int), (7 : Int), (12 : Int), (24 : Int), (48 : Int), (60 : Int), (100 : Int), (1000 : Int)]).snd.fst, (amongS (code, a, sd) [(1 : Int), (7 : Int), (12 : Int), (24 : Int), (48 : Int), (60 : Int), (100 : Int), (1000 : Int)]).snd.snd.fst, (amongS (code, a, sd) [(1 : Int), (7 : Int), (12 : Int), (24 : Int), (48 : Int), (60 : Int), (100 : Int), (1000 : Int)]).snd.snd.snd) (3 : Int)).fst.snd).fst.snd)], [.view (Ty.int IntKind.u8) ((beatS ((amongS (code, a, sd) [(1 : Int), (7 : Int), (12 : Int), (24 : Int), (48 : Int), (60 : Int), (100 : Int), (1000 : Int)]).snd.fst, (amongS (code, a, sd) [(1 : Int), (7 : Int), (12 : Int), (24 : Int), (48 : Int), (60 : Int), (100 : Int), (1000 : Int)]).snd.snd.fst, (amongS (code, a, sd) [(1 : Int), (7 : Int), (12 : Int), (24 : Int), (48 : Int), (60 : Int), (100 : Int), (1000 : Int)]).snd.snd.snd) (3 : Int)).snd.fst), .int .i64 ((beatS ((amongS (code, a, sd) [(1 : Int), (7 : Int), (12 : Int), (24 : Int), (48 : Int), (60 : Int), (100 : Int), (1000 : Int)]).snd.fst, (amongS (code, a, sd) [(1 : Int), (7 : Int), (12 : Int), (24 : Int), (48 : Int), (60 : Int), (100 : Int), (1000 : Int)]).snd.snd.fst, (amongS (code, a, sd) [(1 : Int), (7 : Int), (12 : Int), (24 : Int), (48 : Int), (60 : Int), (100 : Int), (1000 : Int)]).snd.snd.snd) (3 : Int)).snd.snd.fst), .int .u64 ((beatS ((amongS (code, a, sd) [(1 : Int), (7 : Int), (12 : Int), (24 : Int), (48 : Int), (60 : Int), (100 : Int), (1000 : Int)]).snd.fst, (amongS (code, a, sd) [(1 : Int), (7 : Int), (12 : Int), (24 : Int), (48 : Int), (60 : Int), (100 : Int), (1000 : Int)]).snd.snd.fst, (amongS (code, a, sd) [(1 : Int), (7 : Int), (12 : Int), (24 : Int), (48 : Int), (60 : Int), (100 : Int), (1000 : Int)]).snd.snd.snd) (3 : Int)).snd.snd.snd)]]⟩))))))) (.leaf ((.exit 0), ⟨[.ptr 700000 0, .ptr 2 0, .ptr 3 0, .ptr 4 0], [.box [.nilS]], [.int .i64 (k)], [[.own (tFrac.pair I64) (out)], [.int .i64 (u), .int .i64 (v)], [.view (Ty.int IntKind.u8) (code), .int .i64 (a), .int .u64 (sd)]]⟩)) := by kernel_rfl
  rw [htree]
  clear htree
  replace hp : (0 ≤ k ∧ k ≤ 4) ∧ (out.length : Int) + k ≤ 4 ∧ okS (code, a, sd) (700000050 - 10 * k) := hp
  have ea : amongS (code, a, sd) [1, 7, 12, 24, 48, 60, 100, 1000] = amongS (code, a, sd) sampL := rfl
  have eta : ∀ s : Src, (s.1, s.2.1, s.2.2) = s := fun _ => rfl
  obtain ⟨hk, hl, ho⟩ := hp
  simp only [Tree.ok, tyd_inj, packAV, AV.same, AV.same.sameL, encV, encS, enc, inK, Nd.ok, List.headD_cons, List.cons_append, List.nil_append, List.append_nil, true_and, and_true, Bool.true_and, Bool.and_true, loop_next, weakBs_nil, weakBs_cons, weakB_self, weakB_row, weakB_int, weakL_nil, weakL_unk, weakL_guess, isRow_own, isRow_unk, weakL_int, weakL_bool, weakL_str, weakL_own, weakL_view, weakL_nilS, noRow_int, noRow_bool, own_inj, LTree.val, cond_true, cond_false, Prod.mk.injEq, List.cons.injEq, AV.int.injEq, AV.bool.injEq, AV.str.injEq, AV.agg.injEq, ann_l17Draw_0, ea, eta, decide_eq_true_eq, decide_eq_false_iff_not, beq_iff_eq, beq_eq_false_iff_ne, ne_eq]
  refine ⟨fun hk0 => ?_, fun hk0 => ?_⟩
  · have hs := amongS_ok ho sampL
    have h2 := (beatS_ok hs 3).mono (show 700000050 - 10 * k + 2 + 4 ≤ 700000050 - 10 * (k - 1) by omega)
    have eD : drawT k.toNat (code, a, sd) (u, v) = ((((u, v), (amongS (code, a, sd) sampL).1) : tTempo.den) :: (drawT (k - 1).toNat (stepS (amongS (code, a, sd) sampL).2).2 (addF u v (stepS (amongS (code, a, sd) sampL).2).1.1 (stepS (amongS (code, a, sd) sampL).2).1.2).1).1,
        (drawT (k - 1).toNat (stepS (amongS (code, a, sd) sampL).2).2 (addF u v (stepS (amongS (code, a, sd) sampL).2).1.1 (stepS (amongS (code, a, sd) sampL).2).1.2).1).2) := by
      rw [show k.toNat = (k - 1).toNat + 1 by omega]; rfl
    have eS : ∀ s : Src, stepS s = (if (beatS s 3).1.1 = 0 then (1, 2) else (beatS s 3).1, (beatS s 3).2) := fun _ => rfl
    rw [eD, eS]
    have hs8 := hs.mono (show 700000050 - 10 * k + 2 ≤ 800000000 by omega)
    have ho9 := ho.mono (show 700000050 - 10 * k ≤ 900000000 by omega)
    clear eD eS hs ea
    generalize amongS (code, a, sd) sampL = w at *
    generalize beatS w.2 3 = b at *
    obtain ⟨⟨b1, b2⟩, b3⟩ := b
    by_cases hb : b1 = 0
    · subst hb
      simp only [if_true, List.append_assoc, List.cons_append, List.nil_append, List.length_append, List.length_cons, List.length_nil]
      refine ⟨⟨ho9, by decide, by decide⟩, by omega, ⟨hs8, by decide, by decide⟩, ?_⟩
      repeat' first | apply And.intro | intro _
      all_goals first | omega | exact h2 | trivial | rfl | contradiction
    · simp only [if_neg hb, List.append_assoc, List.cons_append, List.nil_append, List.length_append, List.length_cons, List.length_nil]
      refine ⟨⟨ho9, by decide, by decide⟩, by omega, ⟨hs8, by decide, by decide⟩, ?_⟩
      repeat' first | apply And.intro | intro _
      all_goals first | omega | exact h2 | trivial | rfl | contradiction
  · obtain rfl : k = 0 := by omega
    simp [Tree.ok, tyd_inj, packAV, AV.same, AV.same.sameL, encV, encS, enc, inK, Nd.ok, List.headD_cons, List.cons_append, List.nil_append, List.append_nil, true_and, and_true, Bool.true_and, Bool.and_true, loop_next, weakBs_nil, weakBs_cons, weakB_self, weakB_row, weakB_int, weakL_nil, weakL_unk, weakL_guess, isRow_own, isRow_unk, weakL_int, weakL_bool, weakL_str, weakL_own, weakL_view, weakL_nilS, noRow_int, noRow_bool, own_inj, LTree.val, cond_true, cond_false, Prod.mk.injEq, List.cons.injEq, AV.int.injEq, AV.bool.injEq, AV.str.injEq, AV.agg.injEq, drawT]
theorem loops_l17Draw : ∀ c, Tryz.f55.body = some c → LoopsOk Tryz.prog (addL (firstId (loopAt Tryz.f55 0)) ann_l17Draw_0 noL) Tryz.f55.ntmps c := loopsN fun i hi ann h => by
  have hn : loopN Tryz.f55 = 1 := by kernel_rfl
  rw [hn] at hi
  exact match i, hi, h with
    | 0, _, h => (Option.some.inj ((show (addL (firstId (loopAt Tryz.f55 0)) ann_l17Draw_0 noL) (firstId (loopAt Tryz.f55 0)) = some ann_l17Draw_0 from by kernel_rfl).symm.trans h)) ▸ loop_l17Draw_0
set_option maxHeartbeats 1000000 in
theorem sat_l17Draw : Sat Tryz.prog 55 ct_l17Draw := by
  refine sat_typedB (C := C_Ds) (L := (addL (firstId (loopAt Tryz.f55 0)) ann_l17Draw_0 noL)) (wr := false) mixedOk Tryz.func55 C_Ds_ok (loops_l17Draw) (fun _ _ => by first | rfl | (simp [ownsOf, ownsOf.ownsL, enc, encV, encS])) fun bx x hp => ?_
  obtain ⟨(code : List (Ty.int .u8).den), (a : Int), (sd : Int)⟩ := bx
  obtain _ := x
  replace hp : okS (code, a, sd) 700000000 := hp
  have htree : exFuncB Tryz.prog C_Ds false (addL (firstId (loopAt Tryz.f55 0)) ann_l17Draw_0 noL) Tryz.f55 (encA [] ()) ⟨tSrc, (code, a, sd)⟩ = .need (okS (code, a, sd) (900000000 : Int) ∧ (4 : Int) ≤ (1000000 : Int)) (.need (inK IntKind.i64 ((1 : Int) + (pickS (code, a, sd) (4 : Int)).fst)) (.need (((0 : Int) ≤ (1 : Int) + (pickS (code, a, sd) (4 : Int)).fst ∧ (1 : Int) + (pickS (code, a, sd) (4 : Int)).fst ≤ (4 : Int)) ∧ (↑(0 : Nat) : Int) + ((1 : Int) + (pickS (code, a, sd) (4 : Int)).fst) ≤ (4 : Int) ∧ okS ((pickS (code, a, sd) (4 : Int)).snd.fst, (pickS (code, a, sd) (4 : Int)).snd.snd.fst, (pickS (code, a, sd) (4 : Int)).snd.snd.snd) ((700000050 : Int) - (10 : Int) * ((1 : Int) + (pickS (code, a, sd) (4 : Int)).fst))) (.leaf ([.agg [.own (tFrac.pair I64) ([] ++ (drawT ((1 : Int) + (pickS (code, a, sd) (4 : Int)).fst).toNat ((pickS (code, a, sd) (4 : Int)).snd.fst, (pickS (code, a, sd) (4 : Int)).snd.snd.fst, (pickS (code, a, sd) (4 : Int)).snd.snd.snd) ((0 : Int), (1 : Int))).fst)]], ⟨(Ty.int IntKind.u8).seq.pair ((Ty.int IntKind.i64).pair (Ty.int IntKind.u64)), ((drawT ((1 : Int) + (pickS (code, a, sd) (4 : Int)).fst).toNat ((pickS (code, a, sd) (4 : Int)).snd.fst, (pickS (code, a, sd) (4 : Int)).snd.snd.fst, (pickS (code, a, sd) (4 : Int)).snd.snd.snd) ((0 : Int), (1 : Int))).snd.fst, (drawT ((1 : Int) + (pickS (code, a, sd) (4 : Int)).fst).toNat ((pickS (code, a, sd) (4 : Int)).snd.fst, (pickS (code, a, sd) (4 : Int)).snd.snd.fst, (pickS (code, a, sd) (4 : Int)).snd.snd.snd) ((0 : Int), (1 : Int))).snd.snd.fst, (drawT ((1 : Int) + (pickS (code, a, sd) (4 : Int)).fst).toNat ((pickS (code, a, sd) (4 : Int)).snd.fst, (pickS (code, a, sd) (4 : Int)).snd.snd.fst, (pickS (code, a, sd) (4 : Int)).snd.snd.snd) ((0 : Int), (1 : Int))).snd.snd.snd)⟩)))) := by kernel_rfl
  refine (congrArg (Tree.ok _) htree).mpr ?_
  clear htree
  have eta : ∀ s : Src, (s.1, s.2.1, s.2.2) = s := fun _ => rfl
  have hb := pickS_bd hp 4
  have hq := (pickS_ok hp 4).mono (show (700000000 : Int) + 2 ≤ 700000050 - 10 * (1 + (pickS (code, a, sd) 4).1) by omega)
  have eT : tmapS (code, a, sd) = drawT (1 + (pickS (code, a, sd) 4).1).toNat (pickS (code, a, sd) 4).2 (0, 1) := rfl
  simp only [Tree.ok, tyd_inj, packAV, AV.same, AV.same.sameL, encV, encS, enc, inK, Nd.ok, List.headD_cons, List.cons_append, List.nil_append, List.append_nil, true_and, and_true, Bool.true_and, Bool.and_true, eta, eT, List.nil_append]
  repeat' apply And.intro
  all_goals first | omega | exact hp.mono (by omega) | exact hq | rfl | (simp; omega)
def C_Dt_1 : FuncId → Option Ct := addC 55 ct_l17Draw C_Ds
theorem C_Dt_1_ok : COk Tryz.prog C_Dt_1 := addC_ok C_Ds_ok sat_l17Draw

def C_Dt : FuncId → Option Ct := C_Dt_1
theorem C_Dt_ok : COk Tryz.prog C_Dt := C_Dt_1_ok
end Go.Proofs.YtkeckmdmmbeaiaaGreatDoor
