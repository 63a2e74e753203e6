/- Contracts: scores shifted, stretched, reversed; the laws. Conditions: as each says. -/
import Derived.Test.YtjgjcggecikdpaaSd
set_option linter.unusedSimpArgs false
set_option linter.unusedVariables false
namespace Go.Proofs.Ytjgjcggecikdpaa
open Go.RowKit Sx
set_option maxRecDepth 100000
set_option maxHeartbeats 1000000
theorem etaF (v : tFrac.den) : ((v.1, v.2) : tFrac.den) = v := rfl
def strS (v : tFrac.den) (xs : List tNote.den) : List tNote.den × Int := if scoreF xs = true ∧ okF v.1 v.2 = true then (if (v.1 : Int) ≤ 0 then ([], 2) else makeS (xs.map (stF v))) else ([], 1)
theorem strS_len (v : tFrac.den) (xs : List tNote.den) : (strS v xs).1.length ≤ 60 := by
  unfold strS
  split
  · rename_i h
    have h1 := makeS_len (xs.map (stF v))
    have h2 := (scoreN h.1).1
    rw [List.length_map] at h1
    split
    · simp
    · omega
  · simp
def ct_cloShift : Ct := ctOf [.s tNote, .p tFrac] (fun ((x : tNote.den), (v : tFrac.den), _) => .p (noteF x = true)) (fun ((x : tNote.den), (v : tFrac.den), _) => .agg (enc tNote (shF v x)))
set_option maxHeartbeats 1000000 in
theorem sat_cloShift : Sat Try.prog 72 ct_cloShift := by
  refine sat_typed (C := C_Sd) (L := noL) (wr := false) mixedOk Try.func72 C_Sd_ok (loops0 (by kernel_rfl)) (fun _ => by first | rfl | (simp [ownsOf, ownsOf.ownsL, enc, encV, encS])) fun x hp => ?_
  obtain ⟨(x : tNote.den), (v : tFrac.den), _⟩ := x
  replace hp : noteF x = true := hp
  have htree : exFunc Try.prog C_Sd false noL Try.f72 (encA [.s tNote, .p tFrac] (x, v, ())) = .leaf [.agg [.int .i64 ((addF x.fst.fst x.fst.snd v.fst v.snd).fst.fst), .int .i64 ((addF x.fst.fst x.fst.snd v.fst v.snd).fst.snd), .int .i64 (x.snd.fst.fst), .int .i64 (x.snd.fst.snd), .int .i64 (x.snd.snd.fst), .int .i64 (x.snd.snd.snd.fst), .int .i64 (x.snd.snd.snd.snd)]] := by kernel_rfl
  refine (congrArg (Tree.ok _) htree).mpr ?_
  clear htree
  simp only [Tree.ok, tyd_inj, packAV, AV.same, AV.same.sameL, encV, encS, enc, inK, Nd.ok, List.headD_cons, List.cons_append, List.nil_append, List.append_nil, true_and, and_true, Bool.true_and, Bool.and_true, shF]
  repeat' first | apply And.intro | intro _
  all_goals first | omega | trivial | rfl
def C_Se_1 : FuncId → Option Ct := addC 72 ct_cloShift C_Sd
theorem C_Se_1_ok : COk Try.prog C_Se_1 := addC_ok C_Sd_ok sat_cloShift
def ann_changedShift_0 : LAnn := { sameS := [1, 2, 4, 5, 10, 11, 12], modS := [6, 13], sameH := [2, 4], modH := [], base := 900000, nilE := [], nilB := [], G := fun
  | ⟨[.clo 72 [.velt (.pair (.int .i64) (.int .i64)) v 0], .ptr 2 0, .ptr 4 0, .int .i64 r, .ptr 2 0, .view (.pair (.pair (.int .i64) (.int .i64)) (.pair (.pair (.int .i64) (.int .i64)) (.pair (.int .i64) (.pair (.int .i64) (.int .i64))))) xs, .int .i64 n], [.box [.view (.pair (.pair (.int .i64) (.int .i64)) (.pair (.pair (.int .i64) (.int .i64)) (.pair (.int .i64) (.pair (.int .i64) (.int .i64))))) zs], .box [.nilS]], [.own (.pair (.pair (.int .i64) (.int .i64)) (.pair (.pair (.int .i64) (.int .i64)) (.pair (.int .i64) (.pair (.int .i64) (.int .i64))))) out, .int .i64 i], []⟩ => some (.p (((0 ≤ i ∧ i ≤ n) ∧ n = (xs.length : Int) ∧ xs.length ≤ 60 ∧ (out.length : Int) = i) ∧ notesF xs = true), .leaf (.exit 0) [.own tNote (out ++ (xs.drop i.toNat).map (shF v)), .int .i64 n] [])
  | _ => none }
def ct_changedShift : Ct := ctOf [.s qNote, .c1 72 tFrac] (fun ((xs : List tNote.den), (v : tFrac.den), _) => .p (scoreF xs = true)) (fun ((xs : List tNote.den), (v : tFrac.den), _) => .tup [.agg [.own tNote (makeS (xs.map (shF v))).1], .int .i64 (makeS (xs.map (shF v))).2])
set_option maxHeartbeats 1000000 in
theorem loop_changedShift_0 : LoopSat Try.prog Try.f66.ntmps (loopAt Try.f66 0) ann_changedShift_0 := by
  refine loopSat_of (C := C_Se_1) (L := (addL (firstId (loopAt Try.f66 0)) ann_changedShift_0 noL)) (wr := false) mixedOk C_Se_1_ok (loopsIn0 (by kernel_rfl)) (fun d => match d.same, d.vals with | [_, _, _, _, _, _, .int _ n], [_, .int _ i] => (n - i).toNat | _, _ => 0) fun d p t hG hp => ?_
  simp only [ann_changedShift_0] at hG
  split at hG
  rotate_left
  · simp at hG
  rename_i v r xs n zs out i
  simp only [Option.some.injEq, Prod.mk.injEq] at hG
  obtain ⟨rfl, rfl⟩ := hG
  have htree : exRound Try.prog C_Se_1 false (addL (firstId (loopAt Try.f66 0)) ann_changedShift_0 noL) Try.f66.ntmps ann_changedShift_0 (loopAt Try.f66 0) ⟨[.clo 72 [.velt tFrac v 0], .ptr 2 0, .ptr 4 0, .int .i64 r, .ptr 2 0, .view tNote xs, .int .i64 n], [.box [.view tNote zs], .box [.nilS]], [.own tNote out, .int .i64 i], []⟩ = .ite (decide (i < n)) (.need ((0 : Int) ≤ i ∧ i < (↑xs.length : Int)) (.need (noteF (((getT tNote xs i).fst.fst, (getT tNote xs i).fst.snd), ((getT tNote xs i).snd.fst.fst, (getT tNote xs i).snd.fst.snd), (getT tNote xs i).snd.snd.fst, (getT tNote xs i).snd.snd.snd.fst, (getT tNote xs i).snd.snd.snd.snd) = true) (.need (out.length + [(((shF (v.fst, v.snd) (((getT tNote xs i).fst.fst, (getT tNote xs i).fst.snd), ((getT tNote xs i).snd.fst.fst, (getT tNote xs i).snd.fst.snd), (getT tNote xs i).snd.snd.fst, (getT tNote xs i).snd.snd.snd.fst, (getT tNote xs i).snd.snd.snd.snd)).fst.fst, (shF (v.fst, v.snd) (((getT tNote xs i).fst.fst, (getT tNote xs i).fst.snd), ((getT tNote xs i).snd.fst.fst, (getT tNote xs i).snd.fst.snd), (getT tNote xs i).snd.snd.fst, (getT tNote xs i).snd.snd.snd.fst, (getT tNote xs i).snd.snd.snd.snd)).fst.snd), ((shF (v.fst, v.snd) (((getT tNote xs i).fst.fst, (getT tNote xs i).fst.snd), ((getT tNote xs i).snd.fst.fst, (getT tNote xs i).snd.fst.snd), (getT tNote xs i).snd.snd.fst, (getT tNote xs i).snd.snd.snd.fst, (getT tNote xs i).snd.snd.snd.snd)).snd.fst.fst, (shF (v.fst, v.snd) (((getT tNote xs i).fst.fst, (getT tNote xs i).fst.snd), ((getT tNote xs i).snd.fst.fst, (getT tNote xs i).snd.fst.snd), (getT tNote xs i).snd.snd.fst, (getT tNote xs i).snd.snd.snd.fst, (getT tNote xs i).snd.snd.snd.snd)).snd.fst.snd), (shF (v.fst, v.snd) (((getT tNote xs i).fst.fst, (getT tNote xs i).fst.snd), ((getT tNote xs i).snd.fst.fst, (getT tNote xs i).snd.fst.snd), (getT tNote xs i).snd.snd.fst, (getT tNote xs i).snd.snd.snd.fst, (getT tNote xs i).snd.snd.snd.snd)).snd.snd.fst, (shF (v.fst, v.snd) (((getT tNote xs i).fst.fst, (getT tNote xs i).fst.snd), ((getT tNote xs i).snd.fst.fst, (getT tNote xs i).snd.fst.snd), (getT tNote xs i).snd.snd.fst, (getT tNote xs i).snd.snd.snd.fst, (getT tNote xs i).snd.snd.snd.snd)).snd.snd.snd.fst, (shF (v.fst, v.snd) (((getT tNote xs i).fst.fst, (getT tNote xs i).fst.snd), ((getT tNote xs i).snd.fst.fst, (getT tNote xs i).snd.fst.snd), (getT tNote xs i).snd.snd.fst, (getT tNote xs i).snd.snd.snd.fst, (getT tNote xs i).snd.snd.snd.snd)).snd.snd.snd.snd)].length ≤ (16777216 : Nat)) (.need (inK IntKind.i64 (i + (1 : Int))) (.leaf (.normal, ⟨[.clo 72 [.velt (I64.pair I64) (v) ((0 : Nat))], .ptr 2 0, .ptr 4 0, .int .i64 (r), .ptr 2 0, .view (tFrac.pair (tFrac.pair (I64.pair (I64.pair I64)))) (xs), .int .i64 (n)], [.box [.view (tFrac.pair (tFrac.pair (I64.pair (I64.pair I64)))) (zs)], .box [.nilS]], [.own (tFrac.pair (tFrac.pair (I64.pair (I64.pair I64)))) (out ++ [(((shF (v.fst, v.snd) (((getT tNote xs i).fst.fst, (getT tNote xs i).fst.snd), ((getT tNote xs i).snd.fst.fst, (getT tNote xs i).snd.fst.snd), (getT tNote xs i).snd.snd.fst, (getT tNote xs i).snd.snd.snd.fst, (getT tNote xs i).snd.snd.snd.snd)).fst.fst, (shF (v.fst, v.snd) (((getT tNote xs i).fst.fst, (getT tNote xs i).fst.snd), ((getT tNote xs i).snd.fst.fst, (getT tNote xs i).snd.fst.snd), (getT tNote xs i).snd.snd.fst, (getT tNote xs i).snd.snd.snd.fst, (getT tNote xs i).snd.snd.snd.snd)).fst.snd), ((shF (v.fst, v.snd) (((getT tNote xs i).fst.fst, (getT tNote xs i).fst.snd), ((getT tNote xs i).snd.fst.fst, (getT tNote xs i).snd.fst.snd), (getT tNote xs i).snd.snd.fst, (getT tNote xs i).snd.snd.snd.fst, (getT tNote xs i).snd.snd.snd.snd)).snd.fst.fst, (shF (v.fst, v.snd) (((getT tNote xs i).fst.fst, (getT tNote xs i).fst.snd), ((getT tNote xs i).snd.fst.fst, (getT tNote xs i).snd.fst.snd), (getT tNote xs i).snd.snd.fst, (getT tNote xs i).snd.snd.snd.fst, (getT tNote xs i).snd.snd.snd.snd)).snd.fst.snd), (shF (v.fst, v.snd) (((getT tNote xs i).fst.fst, (getT tNote xs i).fst.snd), ((getT tNote xs i).snd.fst.fst, (getT tNote xs i).snd.fst.snd), (getT tNote xs i).snd.snd.fst, (getT tNote xs i).snd.snd.snd.fst, (getT tNote xs i).snd.snd.snd.snd)).snd.snd.fst, (shF (v.fst, v.snd) (((getT tNote xs i).fst.fst, (getT tNote xs i).fst.snd), ((getT tNote xs i).snd.fst.fst, (getT tNote xs i).snd.fst.snd), (getT tNote xs i).snd.snd.fst, (getT tNote xs i).snd.snd.snd.fst, (getT tNote xs i).snd.snd.snd.snd)).snd.snd.snd.fst, (shF (v.fst, v.snd) (((getT tNote xs i).fst.fst, (getT tNote xs i).fst.snd), ((getT tNote xs i).snd.fst.fst, (getT tNote xs i).snd.fst.snd), (getT tNote xs i).snd.snd.fst, (getT tNote xs i).snd.snd.snd.fst, (getT tNote xs i).snd.snd.snd.snd)).snd.snd.snd.snd)]), .int .i64 (i + (1 : Int))], []⟩)))))) (.leaf ((.exit 0), ⟨[.clo 72 [.velt (I64.pair I64) (v) ((0 : Nat))], .ptr 2 0, .ptr 4 0, .int .i64 (r), .ptr 2 0, .view (tFrac.pair (tFrac.pair (I64.pair (I64.pair I64)))) (xs), .int .i64 (n)], [.box [.view (tFrac.pair (tFrac.pair (I64.pair (I64.pair I64)))) (zs)], .box [.nilS]], [.own (tFrac.pair (tFrac.pair (I64.pair (I64.pair I64)))) (out), .int .i64 (i)], []⟩)) := by kernel_rfl
  rw [htree]
  clear htree
  replace hp : ((0 ≤ i ∧ i ≤ n) ∧ n = (xs.length : Int) ∧ xs.length ≤ 60 ∧ (out.length : Int) = i) ∧ notesF xs = true := hp
  simp only [Tree.ok, tyd_inj, packAV, AV.same, AV.same.sameL, encV, encS, enc, inK, Nd.ok, List.headD_cons, List.cons_append, List.nil_append, List.append_nil, true_and, and_true, Bool.true_and, Bool.and_true, loop_next, weakBs_nil, weakBs_cons, weakB_self, weakB_row, weakB_int, weakL_nil, weakL_unk, weakL_guess, isRow_own, isRow_unk, weakL_int, weakL_bool, weakL_str, weakL_own, weakL_view, weakL_nilS, noRow_int, noRow_bool, own_inj, LTree.val, cond_true, cond_false, Prod.mk.injEq, List.cons.injEq, AV.int.injEq, AV.bool.injEq, AV.str.injEq, AV.agg.injEq, ann_changedShift_0, decide_eq_true_eq, decide_eq_false_iff_not, getT, etaN]
  try simp only [etaF]
  refine ⟨fun ha => ?_, fun ha => ?_⟩
  · have h1 := map_step (shF v) xs i.toNat tNote.zero (by omega)
    have g1 := notesF_get hp.2 i.toNat tNote.zero (by omega)
    rw [show (i + 1).toNat = i.toNat + 1 by omega, h1]
    simp only [List.length_append, List.length_cons, List.length_nil, List.append_assoc, List.cons_append, List.nil_append]
    repeat' first | apply And.intro | intro _
    all_goals first | omega | assumption | exact hp.2.1 | exact hp.2.2 | exact hp.2 | trivial | rfl
  · rw [show i.toNat = xs.length by omega, List.drop_length]
    simp [Tree.ok, tyd_inj, packAV, AV.same, AV.same.sameL, encV, encS, enc, inK, Nd.ok, List.headD_cons, List.cons_append, List.nil_append, List.append_nil, true_and, and_true, Bool.true_and, Bool.and_true, loop_next, weakBs_nil, weakBs_cons, weakB_self, weakB_row, weakB_int, weakL_nil, weakL_unk, weakL_guess, isRow_own, isRow_unk, weakL_int, weakL_bool, weakL_str, weakL_own, weakL_view, weakL_nilS, noRow_int, noRow_bool, own_inj, LTree.val, cond_true, cond_false, Prod.mk.injEq, List.cons.injEq, AV.int.injEq, AV.bool.injEq, AV.str.injEq, AV.agg.injEq]
    omega
theorem loops_changedShift : ∀ c, Try.f66.body = some c → LoopsOk Try.prog (addL (firstId (loopAt Try.f66 0)) ann_changedShift_0 noL) Try.f66.ntmps c := loopsN fun i hi ann h => by
  have hn : loopN Try.f66 = 1 := by kernel_rfl
  rw [hn] at hi
  exact match i, hi, h with
    | 0, _, h => (Option.some.inj ((show (addL (firstId (loopAt Try.f66 0)) ann_changedShift_0 noL) (firstId (loopAt Try.f66 0)) = some ann_changedShift_0 from by kernel_rfl).symm.trans h)) ▸ loop_changedShift_0
set_option maxHeartbeats 1000000 in
theorem sat_changedShift : Sat Try.prog 66 ct_changedShift := by
  refine sat_typed (C := C_Se_1) (L := (addL (firstId (loopAt Try.f66 0)) ann_changedShift_0 noL)) (wr := false) mixedOk Try.func66 C_Se_1_ok (loops_changedShift) (fun _ => by first | rfl | (simp [ownsOf, ownsOf.ownsL, enc, encV, encS])) fun x hp => ?_
  obtain ⟨(xs : List tNote.den), (v : tFrac.den), _⟩ := x
  replace hp : scoreF xs = true := hp
  have htree : exFunc Try.prog C_Se_1 false (addL (firstId (loopAt Try.f66 0)) ann_changedShift_0 noL) Try.f66 (encA [.s qNote, .c1 72 tFrac] (xs, v, ())) = .need ((((0 : Int) ≤ (0 : Int) ∧ (0 : Int) ≤ (↑xs.length : Int)) ∧ (↑xs.length : Int) = (↑xs.length : Int) ∧ xs.length ≤ (60 : Nat) ∧ (↑(0 : Nat) : Int) = (0 : Int)) ∧ notesF xs = true) (.need ((↑([] ++ List.map (shF v) (List.drop (Int.toNat (0 : Int)) xs)).length : Int) ≤ (9223372036854775807 : Int)) (.ite (!notesF ([] ++ List.map (shF v) (List.drop (Int.toNat (0 : Int)) xs))) (.leaf [.agg [.nilS], .int .i64 ((2 : Int))]) (.need (([] ++ List.map (shF v) (List.drop (Int.toNat (0 : Int)) xs)).length ≤ (1000 : Nat) ∧ AllOk goodN ([] ++ List.map (shF v) (List.drop (Int.toNat (0 : Int)) xs))) (.need ((srt ltN ([] ++ List.map (shF v) (List.drop (Int.toNat (0 : Int)) xs))).length ≤ (1000 : Nat) ∧ AllOk goodN (srt ltN ([] ++ List.map (shF v) (List.drop (Int.toNat (0 : Int)) xs)))) (.ite (twinB (srt ltN ([] ++ List.map (shF v) (List.drop (Int.toNat (0 : Int)) xs)))) (.leaf [.agg [.nilS], .int .i64 ((4 : Int))]) (.leaf [.agg [.own (tFrac.pair (tFrac.pair (I64.pair (I64.pair I64)))) (srt ltN ([] ++ List.map (shF v) (List.drop (Int.toNat (0 : Int)) xs)))], .int .i64 ((0 : Int))])))))) := by kernel_rfl
  refine (congrArg (Tree.ok _) htree).mpr ?_
  clear htree
  have hs := scoreN hp
  have hk := @notesOk (xs.map (shF v))
  have hl : (xs.map (shF v)).length = xs.length := List.length_map _
  simp only [Tree.ok, tyd_inj, packAV, AV.same, AV.same.sameL, encV, encS, enc, inK, Nd.ok, List.headD_cons, List.cons_append, List.nil_append, List.append_nil, true_and, and_true, Bool.true_and, Bool.and_true, makeS, Int.toNat_zero, List.drop_zero, List.nil_append, srt_len]
  generalize xs.map (shF v) = ys at *
  cases h2 : notesF ys
  · simp
    repeat' first | apply And.intro | intro _
    all_goals first | omega | exact hs.1 | exact hs.2 | exact hp.2 | trivial | assumption
  · have hk := hk h2
    cases h3 : twinB (srt ltN ys)
    all_goals
      simp only [if_true, Bool.not_true, Bool.false_eq_true, if_false]
      repeat' first | apply And.intro | intro _
      all_goals first | omega | exact hk _ ‹_› | exact hk.srt _ ‹_› | exact hs.1 | exact hs.2 | exact hp.2 | trivial | assumption | contradiction | rfl | (simp at *; done)
def C_Se_2 : FuncId → Option Ct := addC 66 ct_changedShift C_Se_1
theorem C_Se_2_ok : COk Try.prog C_Se_2 := addC_ok C_Se_1_ok sat_changedShift
def ct_iShift : Ct := ctOf [.s qNote, .s tFrac] (fun ((xs : List tNote.den), (v : tFrac.den), _) => .p ((xs.length : Int) ≤ 9223372036854775807)) (fun ((xs : List tNote.den), (v : tFrac.den), _) => .tup [.agg [.own tNote (keyS (okF v.1 v.2) (shF v) xs).1], .int .i64 (keyS (okF v.1 v.2) (shF v) xs).2])
set_option maxHeartbeats 1000000 in
theorem sat_iShift : Sat Try.prog 20 ct_iShift := by
  refine sat_typed (C := C_Se_2) (L := noL) (wr := false) mixedOk Try.func20 C_Se_2_ok (loops0 (by kernel_rfl)) (fun _ => by first | rfl | (simp [ownsOf, ownsOf.ownsL, enc, encV, encS])) fun x hp => ?_
  obtain ⟨(xs : List tNote.den), (v : tFrac.den), _⟩ := x
  replace hp : (xs.length : Int) ≤ 9223372036854775807 := hp
  have htree : exFunc Try.prog C_Se_2 false noL Try.f20 (encA [.s qNote, .s tFrac] (xs, v, ())) = .need ((↑xs.length : Int) ≤ (9223372036854775807 : Int)) (.ite (!scoreF xs) (.leaf [.agg [.nilS], .int .i64 ((1 : Int))]) (.ite (!okF v.fst v.snd) (.leaf [.agg [.nilS], .int .i64 ((1 : Int))]) (.need (scoreF xs = true) (.leaf [.agg [.own (tFrac.pair (tFrac.pair (I64.pair (I64.pair I64)))) ((makeS (List.map (shF (v.fst, v.snd)) xs)).fst)], .int .i64 ((makeS (List.map (shF (v.fst, v.snd)) xs)).snd)])))) := by kernel_rfl
  refine (congrArg (Tree.ok _) htree).mpr ?_
  clear htree
  simp only [Tree.ok, tyd_inj, packAV, AV.same, AV.same.sameL, encV, encS, enc, inK, Nd.ok, List.headD_cons, List.cons_append, List.nil_append, List.append_nil, true_and, and_true, Bool.true_and, Bool.and_true, keyS, strS, decide_eq_true_eq, decide_eq_false_iff_not]
  cases hs : scoreF xs
  · simp; omega
  · try simp only [etaF]
    cases ho : okF v.1 v.2 <;> simp <;> omega
def C_Se_3 : FuncId → Option Ct := addC 20 ct_iShift C_Se_2
theorem C_Se_3_ok : COk Try.prog C_Se_3 := addC_ok C_Se_2_ok sat_iShift
def ct_cloStretch : Ct := ctOf [.s tNote, .p tFrac] (fun ((x : tNote.den), (v : tFrac.den), _) => .p (noteF x = true)) (fun ((x : tNote.den), (v : tFrac.den), _) => .agg (enc tNote (stF v x)))
set_option maxHeartbeats 1000000 in
theorem sat_cloStretch : Sat Try.prog 74 ct_cloStretch := by
  refine sat_typed (C := C_Se_3) (L := noL) (wr := false) mixedOk Try.func74 C_Se_3_ok (loops0 (by kernel_rfl)) (fun _ => by first | rfl | (simp [ownsOf, ownsOf.ownsL, enc, encV, encS])) fun x hp => ?_
  obtain ⟨(x : tNote.den), (v : tFrac.den), _⟩ := x
  replace hp : noteF x = true := hp
  have htree : exFunc Try.prog C_Se_3 false noL Try.f74 (encA [.s tNote, .p tFrac] (x, v, ())) = .leaf [.agg [.int .i64 ((mulF x.fst.fst x.fst.snd v.fst v.snd).fst.fst), .int .i64 ((mulF x.fst.fst x.fst.snd v.fst v.snd).fst.snd), .int .i64 ((mulF x.snd.fst.fst x.snd.fst.snd v.fst v.snd).fst.fst), .int .i64 ((mulF x.snd.fst.fst x.snd.fst.snd v.fst v.snd).fst.snd), .int .i64 (x.snd.snd.fst), .int .i64 (x.snd.snd.snd.fst), .int .i64 (x.snd.snd.snd.snd)]] := by kernel_rfl
  refine (congrArg (Tree.ok _) htree).mpr ?_
  clear htree
  simp only [Tree.ok, tyd_inj, packAV, AV.same, AV.same.sameL, encV, encS, enc, inK, Nd.ok, List.headD_cons, List.cons_append, List.nil_append, List.append_nil, true_and, and_true, Bool.true_and, Bool.and_true, stF]
  repeat' first | apply And.intro | intro _
  all_goals first | omega | trivial | rfl
def C_Se_4 : FuncId → Option Ct := addC 74 ct_cloStretch C_Se_3
theorem C_Se_4_ok : COk Try.prog C_Se_4 := addC_ok C_Se_3_ok sat_cloStretch
def ann_changedStretch_0 : LAnn := { sameS := [1, 2, 4, 5, 10, 11, 12], modS := [6, 13], sameH := [2, 4], modH := [], base := 900000, nilE := [], nilB := [], G := fun
  | ⟨[.clo 74 [.velt (.pair (.int .i64) (.int .i64)) v 0], .ptr 2 0, .ptr 4 0, .int .i64 r, .ptr 2 0, .view (.pair (.pair (.int .i64) (.int .i64)) (.pair (.pair (.int .i64) (.int .i64)) (.pair (.int .i64) (.pair (.int .i64) (.int .i64))))) xs, .int .i64 n], [.box [.view (.pair (.pair (.int .i64) (.int .i64)) (.pair (.pair (.int .i64) (.int .i64)) (.pair (.int .i64) (.pair (.int .i64) (.int .i64))))) zs], .box [.nilS]], [.own (.pair (.pair (.int .i64) (.int .i64)) (.pair (.pair (.int .i64) (.int .i64)) (.pair (.int .i64) (.pair (.int .i64) (.int .i64))))) out, .int .i64 i], []⟩ => some (.p (((0 ≤ i ∧ i ≤ n) ∧ n = (xs.length : Int) ∧ xs.length ≤ 60 ∧ (out.length : Int) = i) ∧ notesF xs = true), .leaf (.exit 0) [.own tNote (out ++ (xs.drop i.toNat).map (stF v)), .int .i64 n] [])
  | _ => none }
def ct_changedStretch : Ct := ctOf [.s qNote, .c1 74 tFrac] (fun ((xs : List tNote.den), (v : tFrac.den), _) => .p (scoreF xs = true)) (fun ((xs : List tNote.den), (v : tFrac.den), _) => .tup [.agg [.own tNote (makeS (xs.map (stF v))).1], .int .i64 (makeS (xs.map (stF v))).2])
set_option maxHeartbeats 1000000 in
theorem loop_changedStretch_0 : LoopSat Try.prog Try.f66.ntmps (loopAt Try.f66 0) ann_changedStretch_0 := by
  refine loopSat_of (C := C_Se_4) (L := (addL (firstId (loopAt Try.f66 0)) ann_changedStretch_0 noL)) (wr := false) mixedOk C_Se_4_ok (loopsIn0 (by kernel_rfl)) (fun d => match d.same, d.vals with | [_, _, _, _, _, _, .int _ n], [_, .int _ i] => (n - i).toNat | _, _ => 0) fun d p t hG hp => ?_
  simp only [ann_changedStretch_0] at hG
  split at hG
  rotate_left
  · simp at hG
  rename_i v r xs n zs out i
  simp only [Option.some.injEq, Prod.mk.injEq] at hG
  obtain ⟨rfl, rfl⟩ := hG
  have htree : exRound Try.prog C_Se_4 false (addL (firstId (loopAt Try.f66 0)) ann_changedStretch_0 noL) Try.f66.ntmps ann_changedStretch_0 (loopAt Try.f66 0) ⟨[.clo 74 [.velt tFrac v 0], .ptr 2 0, .ptr 4 0, .int .i64 r, .ptr 2 0, .view tNote xs, .int .i64 n], [.box [.view tNote zs], .box [.nilS]], [.own tNote out, .int .i64 i], []⟩ = .ite (decide (i < n)) (.need ((0 : Int) ≤ i ∧ i < (↑xs.length : Int)) (.need (noteF (((getT tNote xs i).fst.fst, (getT tNote xs i).fst.snd), ((getT tNote xs i).snd.fst.fst, (getT tNote xs i).snd.fst.snd), (getT tNote xs i).snd.snd.fst, (getT tNote xs i).snd.snd.snd.fst, (getT tNote xs i).snd.snd.snd.snd) = true) (.need (out.length + [(((stF (v.fst, v.snd) (((getT tNote xs i).fst.fst, (getT tNote xs i).fst.snd), ((getT tNote xs i).snd.fst.fst, (getT tNote xs i).snd.fst.snd), (getT tNote xs i).snd.snd.fst, (getT tNote xs i).snd.snd.snd.fst, (getT tNote xs i).snd.snd.snd.snd)).fst.fst, (stF (v.fst, v.snd) (((getT tNote xs i).fst.fst, (getT tNote xs i).fst.snd), ((getT tNote xs i).snd.fst.fst, (getT tNote xs i).snd.fst.snd), (getT tNote xs i).snd.snd.fst, (getT tNote xs i).snd.snd.snd.fst, (getT tNote xs i).snd.snd.snd.snd)).fst.snd), ((stF (v.fst, v.snd) (((getT tNote xs i).fst.fst, (getT tNote xs i).fst.snd), ((getT tNote xs i).snd.fst.fst, (getT tNote xs i).snd.fst.snd), (getT tNote xs i).snd.snd.fst, (getT tNote xs i).snd.snd.snd.fst, (getT tNote xs i).snd.snd.snd.snd)).snd.fst.fst, (stF (v.fst, v.snd) (((getT tNote xs i).fst.fst, (getT tNote xs i).fst.snd), ((getT tNote xs i).snd.fst.fst, (getT tNote xs i).snd.fst.snd), (getT tNote xs i).snd.snd.fst, (getT tNote xs i).snd.snd.snd.fst, (getT tNote xs i).snd.snd.snd.snd)).snd.fst.snd), (stF (v.fst, v.snd) (((getT tNote xs i).fst.fst, (getT tNote xs i).fst.snd), ((getT tNote xs i).snd.fst.fst, (getT tNote xs i).snd.fst.snd), (getT tNote xs i).snd.snd.fst, (getT tNote xs i).snd.snd.snd.fst, (getT tNote xs i).snd.snd.snd.snd)).snd.snd.fst, (stF (v.fst, v.snd) (((getT tNote xs i).fst.fst, (getT tNote xs i).fst.snd), ((getT tNote xs i).snd.fst.fst, (getT tNote xs i).snd.fst.snd), (getT tNote xs i).snd.snd.fst, (getT tNote xs i).snd.snd.snd.fst, (getT tNote xs i).snd.snd.snd.snd)).snd.snd.snd.fst, (stF (v.fst, v.snd) (((getT tNote xs i).fst.fst, (getT tNote xs i).fst.snd), ((getT tNote xs i).snd.fst.fst, (getT tNote xs i).snd.fst.snd), (getT tNote xs i).snd.snd.fst, (getT tNote xs i).snd.snd.snd.fst, (getT tNote xs i).snd.snd.snd.snd)).snd.snd.snd.snd)].length ≤ (16777216 : Nat)) (.need (inK IntKind.i64 (i + (1 : Int))) (.leaf (.normal, ⟨[.clo 74 [.velt (I64.pair I64) (v) ((0 : Nat))], .ptr 2 0, .ptr 4 0, .int .i64 (r), .ptr 2 0, .view (tFrac.pair (tFrac.pair (I64.pair (I64.pair I64)))) (xs), .int .i64 (n)], [.box [.view (tFrac.pair (tFrac.pair (I64.pair (I64.pair I64)))) (zs)], .box [.nilS]], [.own (tFrac.pair (tFrac.pair (I64.pair (I64.pair I64)))) (out ++ [(((stF (v.fst, v.snd) (((getT tNote xs i).fst.fst, (getT tNote xs i).fst.snd), ((getT tNote xs i).snd.fst.fst, (getT tNote xs i).snd.fst.snd), (getT tNote xs i).snd.snd.fst, (getT tNote xs i).snd.snd.snd.fst, (getT tNote xs i).snd.snd.snd.snd)).fst.fst, (stF (v.fst, v.snd) (((getT tNote xs i).fst.fst, (getT tNote xs i).fst.snd), ((getT tNote xs i).snd.fst.fst, (getT tNote xs i).snd.fst.snd), (getT tNote xs i).snd.snd.fst, (getT tNote xs i).snd.snd.snd.fst, (getT tNote xs i).snd.snd.snd.snd)).fst.snd), ((stF (v.fst, v.snd) (((getT tNote xs i).fst.fst, (getT tNote xs i).fst.snd), ((getT tNote xs i).snd.fst.fst, (getT tNote xs i).snd.fst.snd), (getT tNote xs i).snd.snd.fst, (getT tNote xs i).snd.snd.snd.fst, (getT tNote xs i).snd.snd.snd.snd)).snd.fst.fst, (stF (v.fst, v.snd) (((getT tNote xs i).fst.fst, (getT tNote xs i).fst.snd), ((getT tNote xs i).snd.fst.fst, (getT tNote xs i).snd.fst.snd), (getT tNote xs i).snd.snd.fst, (getT tNote xs i).snd.snd.snd.fst, (getT tNote xs i).snd.snd.snd.snd)).snd.fst.snd), (stF (v.fst, v.snd) (((getT tNote xs i).fst.fst, (getT tNote xs i).fst.snd), ((getT tNote xs i).snd.fst.fst, (getT tNote xs i).snd.fst.snd), (getT tNote xs i).snd.snd.fst, (getT tNote xs i).snd.snd.snd.fst, (getT tNote xs i).snd.snd.snd.snd)).snd.snd.fst, (stF (v.fst, v.snd) (((getT tNote xs i).fst.fst, (getT tNote xs i).fst.snd), ((getT tNote xs i).snd.fst.fst, (getT tNote xs i).snd.fst.snd), (getT tNote xs i).snd.snd.fst, (getT tNote xs i).snd.snd.snd.fst, (getT tNote xs i).snd.snd.snd.snd)).snd.snd.snd.fst, (stF (v.fst, v.snd) (((getT tNote xs i).fst.fst, (getT tNote xs i).fst.snd), ((getT tNote xs i).snd.fst.fst, (getT tNote xs i).snd.fst.snd), (getT tNote xs i).snd.snd.fst, (getT tNote xs i).snd.snd.snd.fst, (getT tNote xs i).snd.snd.snd.snd)).snd.snd.snd.snd)]), .int .i64 (i + (1 : Int))], []⟩)))))) (.leaf ((.exit 0), ⟨[.clo 74 [.velt (I64.pair I64) (v) ((0 : Nat))], .ptr 2 0, .ptr 4 0, .int .i64 (r), .ptr 2 0, .view (tFrac.pair (tFrac.pair (I64.pair (I64.pair I64)))) (xs), .int .i64 (n)], [.box [.view (tFrac.pair (tFrac.pair (I64.pair (I64.pair I64)))) (zs)], .box [.nilS]], [.own (tFrac.pair (tFrac.pair (I64.pair (I64.pair I64)))) (out), .int .i64 (i)], []⟩)) := by kernel_rfl
  rw [htree]
  clear htree
  replace hp : ((0 ≤ i ∧ i ≤ n) ∧ n = (xs.length : Int) ∧ xs.length ≤ 60 ∧ (out.length : Int) = i) ∧ notesF xs = true := hp
  simp only [Tree.ok, tyd_inj, packAV, AV.same, AV.same.sameL, encV, encS, enc, inK, Nd.ok, List.headD_cons, List.cons_append, List.nil_append, List.append_nil, true_and, and_true, Bool.true_and, Bool.and_true, loop_next, weakBs_nil, weakBs_cons, weakB_self, weakB_row, weakB_int, weakL_nil, weakL_unk, weakL_guess, isRow_own, isRow_unk, weakL_int, weakL_bool, weakL_str, weakL_own, weakL_view, weakL_nilS, noRow_int, noRow_bool, own_inj, LTree.val, cond_true, cond_false, Prod.mk.injEq, List.cons.injEq, AV.int.injEq, AV.bool.injEq, AV.str.injEq, AV.agg.injEq, ann_changedStretch_0, decide_eq_true_eq, decide_eq_false_iff_not, getT, etaN]
  try simp only [etaF]
  refine ⟨fun ha => ?_, fun ha => ?_⟩
  · have h1 := map_step (stF v) xs i.toNat tNote.zero (by omega)
    have g1 := notesF_get hp.2 i.toNat tNote.zero (by omega)
    rw [show (i + 1).toNat = i.toNat + 1 by omega, h1]
    simp only [List.length_append, List.length_cons, List.length_nil, List.append_assoc, List.cons_append, List.nil_append]
    repeat' first | apply And.intro | intro _
    all_goals first | omega | assumption | exact hp.2.1 | exact hp.2.2 | exact hp.2 | trivial | rfl
  · rw [show i.toNat = xs.length by omega, List.drop_length]
    simp [Tree.ok, tyd_inj, packAV, AV.same, AV.same.sameL, encV, encS, enc, inK, Nd.ok, List.headD_cons, List.cons_append, List.nil_append, List.append_nil, true_and, and_true, Bool.true_and, Bool.and_true, loop_next, weakBs_nil, weakBs_cons, weakB_self, weakB_row, weakB_int, weakL_nil, weakL_unk, weakL_guess, isRow_own, isRow_unk, weakL_int, weakL_bool, weakL_str, weakL_own, weakL_view, weakL_nilS, noRow_int, noRow_bool, own_inj, LTree.val, cond_true, cond_false, Prod.mk.injEq, List.cons.injEq, AV.int.injEq, AV.bool.injEq, AV.str.injEq, AV.agg.injEq]
    omega
theorem loops_changedStretch : ∀ c, Try.f66.body = some c → LoopsOk Try.prog (addL (firstId (loopAt Try.f66 0)) ann_changedStretch_0 noL) Try.f66.ntmps c := loopsN fun i hi ann h => by
  have hn : loopN Try.f66 = 1 := by kernel_rfl
  rw [hn] at hi
  exact match i, hi, h with
    | 0, _, h => (Option.some.inj ((show (addL (firstId (loopAt Try.f66 0)) ann_changedStretch_0 noL) (firstId (loopAt Try.f66 0)) = some ann_changedStretch_0 from by kernel_rfl).symm.trans h)) ▸ loop_changedStretch_0
set_option maxHeartbeats 1000000 in
theorem sat_changedStretch : Sat Try.prog 66 ct_changedStretch := by
  refine sat_typed (C := C_Se_4) (L := (addL (firstId (loopAt Try.f66 0)) ann_changedStretch_0 noL)) (wr := false) mixedOk Try.func66 C_Se_4_ok (loops_changedStretch) (fun _ => by first | rfl | (simp [ownsOf, ownsOf.ownsL, enc, encV, encS])) fun x hp => ?_
  obtain ⟨(xs : List tNote.den), (v : tFrac.den), _⟩ := x
  replace hp : scoreF xs = true := hp
  have htree : exFunc Try.prog C_Se_4 false (addL (firstId (loopAt Try.f66 0)) ann_changedStretch_0 noL) Try.f66 (encA [.s qNote, .c1 74 tFrac] (xs, v, ())) = .need ((((0 : Int) ≤ (0 : Int) ∧ (0 : Int) ≤ (↑xs.length : Int)) ∧ (↑xs.length : Int) = (↑xs.length : Int) ∧ xs.length ≤ (60 : Nat) ∧ (↑(0 : Nat) : Int) = (0 : Int)) ∧ notesF xs = true) (.need ((↑([] ++ List.map (stF v) (List.drop (Int.toNat (0 : Int)) xs)).length : Int) ≤ (9223372036854775807 : Int)) (.ite (!notesF ([] ++ List.map (stF v) (List.drop (Int.toNat (0 : Int)) xs))) (.leaf [.agg [.nilS], .int .i64 ((2 : Int))]) (.need (([] ++ List.map (stF v) (List.drop (Int.toNat (0 : Int)) xs)).length ≤ (1000 : Nat) ∧ AllOk goodN ([] ++ List.map (stF v) (List.drop (Int.toNat (0 : Int)) xs))) (.need ((srt ltN ([] ++ List.map (stF v) (List.drop (Int.toNat (0 : Int)) xs))).length ≤ (1000 : Nat) ∧ AllOk goodN (srt ltN ([] ++ List.map (stF v) (List.drop (Int.toNat (0 : Int)) xs)))) (.ite (twinB (srt ltN ([] ++ List.map (stF v) (List.drop (Int.toNat (0 : Int)) xs)))) (.leaf [.agg [.nilS], .int .i64 ((4 : Int))]) (.leaf [.agg [.own (tFrac.pair (tFrac.pair (I64.pair (I64.pair I64)))) (srt ltN ([] ++ List.map (stF v) (List.drop (Int.toNat (0 : Int)) xs)))], .int .i64 ((0 : Int))])))))) := by kernel_rfl
  refine (congrArg (Tree.ok _) htree).mpr ?_
  clear htree
  have hs := scoreN hp
  have hk := @notesOk (xs.map (stF v))
  have hl : (xs.map (stF v)).length = xs.length := List.length_map _
  simp only [Tree.ok, tyd_inj, packAV, AV.same, AV.same.sameL, encV, encS, enc, inK, Nd.ok, List.headD_cons, List.cons_append, List.nil_append, List.append_nil, true_and, and_true, Bool.true_and, Bool.and_true, makeS, Int.toNat_zero, List.drop_zero, List.nil_append, srt_len]
  generalize xs.map (stF v) = ys at *
  cases h2 : notesF ys
  · simp
    repeat' first | apply And.intro | intro _
    all_goals first | omega | exact hs.1 | exact hs.2 | exact hp.2 | trivial | assumption
  · have hk := hk h2
    cases h3 : twinB (srt ltN ys)
    all_goals
      simp only [if_true, Bool.not_true, Bool.false_eq_true, if_false]
      repeat' first | apply And.intro | intro _
      all_goals first | omega | exact hk _ ‹_› | exact hk.srt _ ‹_› | exact hs.1 | exact hs.2 | exact hp.2 | trivial | assumption | contradiction | rfl | (simp at *; done)
def C_Se_5 : FuncId → Option Ct := addC 66 ct_changedStretch C_Se_4
theorem C_Se_5_ok : COk Try.prog C_Se_5 := addC_ok C_Se_4_ok sat_changedStretch
def ct_iStretch : Ct := ctOf [.s qNote, .s tFrac] (fun ((xs : List tNote.den), (v : tFrac.den), _) => .p ((xs.length : Int) ≤ 9223372036854775807)) (fun ((xs : List tNote.den), (v : tFrac.den), _) => .tup [.agg [.own tNote (strS v xs).1], .int .i64 (strS v xs).2])
set_option maxHeartbeats 1000000 in
theorem sat_iStretch : Sat Try.prog 21 ct_iStretch := by
  refine sat_typed (C := C_Se_5) (L := noL) (wr := false) mixedOk Try.func21 C_Se_5_ok (loops0 (by kernel_rfl)) (fun _ => by first | rfl | (simp [ownsOf, ownsOf.ownsL, enc, encV, encS])) fun x hp => ?_
  obtain ⟨(xs : List tNote.den), (v : tFrac.den), _⟩ := x
  replace hp : (xs.length : Int) ≤ 9223372036854775807 := hp
  have htree : exFunc Try.prog C_Se_5 false noL Try.f21 (encA [.s qNote, .s tFrac] (xs, v, ())) = .need ((↑xs.length : Int) ≤ (9223372036854775807 : Int)) (.ite (!scoreF xs) (.leaf [.agg [.nilS], .int .i64 ((1 : Int))]) (.ite (!okF v.fst v.snd) (.leaf [.agg [.nilS], .int .i64 ((1 : Int))]) (.ite (decide (v.fst ≤ (0 : Int))) (.leaf [.agg [.nilS], .int .i64 ((2 : Int))]) (.need (scoreF xs = true) (.leaf [.agg [.own (tFrac.pair (tFrac.pair (I64.pair (I64.pair I64)))) ((makeS (List.map (stF (v.fst, v.snd)) xs)).fst)], .int .i64 ((makeS (List.map (stF (v.fst, v.snd)) xs)).snd)]))))) := by kernel_rfl
  refine (congrArg (Tree.ok _) htree).mpr ?_
  clear htree
  simp only [Tree.ok, tyd_inj, packAV, AV.same, AV.same.sameL, encV, encS, enc, inK, Nd.ok, List.headD_cons, List.cons_append, List.nil_append, List.append_nil, true_and, and_true, Bool.true_and, Bool.and_true, keyS, strS, decide_eq_true_eq, decide_eq_false_iff_not]
  cases hs : scoreF xs
  · simp; omega
  · try simp only [etaF]
    cases ho : okF v.1 v.2
    · simp; omega
    · by_cases hv : (v.1 : Int) ≤ 0
      all_goals
        simp only [hv]
        repeat' first | apply And.intro | intro _
        all_goals first | omega | contradiction | trivial | (simp at *; done) | (simp_all; done)
def C_Se_6 : FuncId → Option Ct := addC 21 ct_iStretch C_Se_5
theorem C_Se_6_ok : COk Try.prog C_Se_6 := addC_ok C_Se_5_ok sat_iStretch
def ct_cloReverse : Ct := ctOf [.s tNote, .p tFrac] (fun ((x : tNote.den), (v : tFrac.den), _) => .p (noteF x = true)) (fun ((x : tNote.den), (v : tFrac.den), _) => .agg (enc tNote (reF v x)))
set_option maxHeartbeats 1000000 in
theorem sat_cloReverse : Sat Try.prog 79 ct_cloReverse := by
  refine sat_typed (C := C_Se_6) (L := noL) (wr := false) mixedOk Try.func79 C_Se_6_ok (loops0 (by kernel_rfl)) (fun _ => by first | rfl | (simp [ownsOf, ownsOf.ownsL, enc, encV, encS])) fun x hp => ?_
  obtain ⟨(x : tNote.den), (v : tFrac.den), _⟩ := x
  replace hp : noteF x = true := hp
  have htree : exFunc Try.prog C_Se_6 false noL Try.f79 (encA [.s tNote, .p tFrac] (x, v, ())) = .leaf [.agg [.int .i64 ((subF v.fst v.snd (endN ((x.fst.fst, x.fst.snd), (x.snd.fst.fst, x.snd.fst.snd), x.snd.snd.fst, x.snd.snd.snd.fst, x.snd.snd.snd.snd)).fst (endN ((x.fst.fst, x.fst.snd), (x.snd.fst.fst, x.snd.fst.snd), x.snd.snd.fst, x.snd.snd.snd.fst, x.snd.snd.snd.snd)).snd).fst.fst), .int .i64 ((subF v.fst v.snd (endN ((x.fst.fst, x.fst.snd), (x.snd.fst.fst, x.snd.fst.snd), x.snd.snd.fst, x.snd.snd.snd.fst, x.snd.snd.snd.snd)).fst (endN ((x.fst.fst, x.fst.snd), (x.snd.fst.fst, x.snd.fst.snd), x.snd.snd.fst, x.snd.snd.snd.fst, x.snd.snd.snd.snd)).snd).fst.snd), .int .i64 (x.snd.fst.fst), .int .i64 (x.snd.fst.snd), .int .i64 (x.snd.snd.fst), .int .i64 (x.snd.snd.snd.fst), .int .i64 (x.snd.snd.snd.snd)]] := by kernel_rfl
  refine (congrArg (Tree.ok _) htree).mpr ?_
  clear htree
  simp only [Tree.ok, tyd_inj, packAV, AV.same, AV.same.sameL, encV, encS, enc, inK, Nd.ok, List.headD_cons, List.cons_append, List.nil_append, List.append_nil, true_and, and_true, Bool.true_and, Bool.and_true, reF]
  repeat' first | apply And.intro | intro _
  all_goals first | omega | trivial | rfl
def C_Se_7 : FuncId → Option Ct := addC 79 ct_cloReverse C_Se_6
theorem C_Se_7_ok : COk Try.prog C_Se_7 := addC_ok C_Se_6_ok sat_cloReverse
def ann_changedReverse_0 : LAnn := { sameS := [1, 2, 4, 5, 10, 11, 12], modS := [6, 13], sameH := [2, 4], modH := [], base := 900000, nilE := [], nilB := [], G := fun
  | ⟨[.clo 79 [.velt (.pair (.int .i64) (.int .i64)) v 0], .ptr 2 0, .ptr 4 0, .int .i64 r, .ptr 2 0, .view (.pair (.pair (.int .i64) (.int .i64)) (.pair (.pair (.int .i64) (.int .i64)) (.pair (.int .i64) (.pair (.int .i64) (.int .i64))))) xs, .int .i64 n], [.box [.view (.pair (.pair (.int .i64) (.int .i64)) (.pair (.pair (.int .i64) (.int .i64)) (.pair (.int .i64) (.pair (.int .i64) (.int .i64))))) zs], .box [.nilS]], [.own (.pair (.pair (.int .i64) (.int .i64)) (.pair (.pair (.int .i64) (.int .i64)) (.pair (.int .i64) (.pair (.int .i64) (.int .i64))))) out, .int .i64 i], []⟩ => some (.p (((0 ≤ i ∧ i ≤ n) ∧ n = (xs.length : Int) ∧ xs.length ≤ 60 ∧ (out.length : Int) = i) ∧ notesF xs = true), .leaf (.exit 0) [.own tNote (out ++ (xs.drop i.toNat).map (reF v)), .int .i64 n] [])
  | _ => none }
def ct_changedReverse : Ct := ctOf [.s qNote, .c1 79 tFrac] (fun ((xs : List tNote.den), (v : tFrac.den), _) => .p (scoreF xs = true)) (fun ((xs : List tNote.den), (v : tFrac.den), _) => .tup [.agg [.own tNote (makeS (xs.map (reF v))).1], .int .i64 (makeS (xs.map (reF v))).2])
set_option maxHeartbeats 1000000 in
theorem loop_changedReverse_0 : LoopSat Try.prog Try.f66.ntmps (loopAt Try.f66 0) ann_changedReverse_0 := by
  refine loopSat_of (C := C_Se_7) (L := (addL (firstId (loopAt Try.f66 0)) ann_changedReverse_0 noL)) (wr := false) mixedOk C_Se_7_ok (loopsIn0 (by kernel_rfl)) (fun d => match d.same, d.vals with | [_, _, _, _, _, _, .int _ n], [_, .int _ i] => (n - i).toNat | _, _ => 0) fun d p t hG hp => ?_
  simp only [ann_changedReverse_0] at hG
  split at hG
  rotate_left
  · simp at hG
  rename_i v r xs n zs out i
  simp only [Option.some.injEq, Prod.mk.injEq] at hG
  obtain ⟨rfl, rfl⟩ := hG
  have htree : exRound Try.prog C_Se_7 false (addL (firstId (loopAt Try.f66 0)) ann_changedReverse_0 noL) Try.f66.ntmps ann_changedReverse_0 (loopAt Try.f66 0) ⟨[.clo 79 [.velt tFrac v 0], .ptr 2 0, .ptr 4 0, .int .i64 r, .ptr 2 0, .view tNote xs, .int .i64 n], [.box [.view tNote zs], .box [.nilS]], [.own tNote out, .int .i64 i], []⟩ = .ite (decide (i < n)) (.need ((0 : Int) ≤ i ∧ i < (↑xs.length : Int)) (.need (noteF (((getT tNote xs i).fst.fst, (getT tNote xs i).fst.snd), ((getT tNote xs i).snd.fst.fst, (getT tNote xs i).snd.fst.snd), (getT tNote xs i).snd.snd.fst, (getT tNote xs i).snd.snd.snd.fst, (getT tNote xs i).snd.snd.snd.snd) = true) (.need (out.length + [(((reF (v.fst, v.snd) (((getT tNote xs i).fst.fst, (getT tNote xs i).fst.snd), ((getT tNote xs i).snd.fst.fst, (getT tNote xs i).snd.fst.snd), (getT tNote xs i).snd.snd.fst, (getT tNote xs i).snd.snd.snd.fst, (getT tNote xs i).snd.snd.snd.snd)).fst.fst, (reF (v.fst, v.snd) (((getT tNote xs i).fst.fst, (getT tNote xs i).fst.snd), ((getT tNote xs i).snd.fst.fst, (getT tNote xs i).snd.fst.snd), (getT tNote xs i).snd.snd.fst, (getT tNote xs i).snd.snd.snd.fst, (getT tNote xs i).snd.snd.snd.snd)).fst.snd), ((reF (v.fst, v.snd) (((getT tNote xs i).fst.fst, (getT tNote xs i).fst.snd), ((getT tNote xs i).snd.fst.fst, (getT tNote xs i).snd.fst.snd), (getT tNote xs i).snd.snd.fst, (getT tNote xs i).snd.snd.snd.fst, (getT tNote xs i).snd.snd.snd.snd)).snd.fst.fst, (reF (v.fst, v.snd) (((getT tNote xs i).fst.fst, (getT tNote xs i).fst.snd), ((getT tNote xs i).snd.fst.fst, (getT tNote xs i).snd.fst.snd), (getT tNote xs i).snd.snd.fst, (getT tNote xs i).snd.snd.snd.fst, (getT tNote xs i).snd.snd.snd.snd)).snd.fst.snd), (reF (v.fst, v.snd) (((getT tNote xs i).fst.fst, (getT tNote xs i).fst.snd), ((getT tNote xs i).snd.fst.fst, (getT tNote xs i).snd.fst.snd), (getT tNote xs i).snd.snd.fst, (getT tNote xs i).snd.snd.snd.fst, (getT tNote xs i).snd.snd.snd.snd)).snd.snd.fst, (reF (v.fst, v.snd) (((getT tNote xs i).fst.fst, (getT tNote xs i).fst.snd), ((getT tNote xs i).snd.fst.fst, (getT tNote xs i).snd.fst.snd), (getT tNote xs i).snd.snd.fst, (getT tNote xs i).snd.snd.snd.fst, (getT tNote xs i).snd.snd.snd.snd)).snd.snd.snd.fst, (reF (v.fst, v.snd) (((getT tNote xs i).fst.fst, (getT tNote xs i).fst.snd), ((getT tNote xs i).snd.fst.fst, (getT tNote xs i).snd.fst.snd), (getT tNote xs i).snd.snd.fst, (getT tNote xs i).snd.snd.snd.fst, (getT tNote xs i).snd.snd.snd.snd)).snd.snd.snd.snd)].length ≤ (16777216 : Nat)) (.need (inK IntKind.i64 (i + (1 : Int))) (.leaf (.normal, ⟨[.clo 79 [.velt (I64.pair I64) (v) ((0 : Nat))], .ptr 2 0, .ptr 4 0, .int .i64 (r), .ptr 2 0, .view (tFrac.pair (tFrac.pair (I64.pair (I64.pair I64)))) (xs), .int .i64 (n)], [.box [.view (tFrac.pair (tFrac.pair (I64.pair (I64.pair I64)))) (zs)], .box [.nilS]], [.own (tFrac.pair (tFrac.pair (I64.pair (I64.pair I64)))) (out ++ [(((reF (v.fst, v.snd) (((getT tNote xs i).fst.fst, (getT tNote xs i).fst.snd), ((getT tNote xs i).snd.fst.fst, (getT tNote xs i).snd.fst.snd), (getT tNote xs i).snd.snd.fst, (getT tNote xs i).snd.snd.snd.fst, (getT tNote xs i).snd.snd.snd.snd)).fst.fst, (reF (v.fst, v.snd) (((getT tNote xs i).fst.fst, (getT tNote xs i).fst.snd), ((getT tNote xs i).snd.fst.fst, (getT tNote xs i).snd.fst.snd), (getT tNote xs i).snd.snd.fst, (getT tNote xs i).snd.snd.snd.fst, (getT tNote xs i).snd.snd.snd.snd)).fst.snd), ((reF (v.fst, v.snd) (((getT tNote xs i).fst.fst, (getT tNote xs i).fst.snd), ((getT tNote xs i).snd.fst.fst, (getT tNote xs i).snd.fst.snd), (getT tNote xs i).snd.snd.fst, (getT tNote xs i).snd.snd.snd.fst, (getT tNote xs i).snd.snd.snd.snd)).snd.fst.fst, (reF (v.fst, v.snd) (((getT tNote xs i).fst.fst, (getT tNote xs i).fst.snd), ((getT tNote xs i).snd.fst.fst, (getT tNote xs i).snd.fst.snd), (getT tNote xs i).snd.snd.fst, (getT tNote xs i).snd.snd.snd.fst, (getT tNote xs i).snd.snd.snd.snd)).snd.fst.snd), (reF (v.fst, v.snd) (((getT tNote xs i).fst.fst, (getT tNote xs i).fst.snd), ((getT tNote xs i).snd.fst.fst, (getT tNote xs i).snd.fst.snd), (getT tNote xs i).snd.snd.fst, (getT tNote xs i).snd.snd.snd.fst, (getT tNote xs i).snd.snd.snd.snd)).snd.snd.fst, (reF (v.fst, v.snd) (((getT tNote xs i).fst.fst, (getT tNote xs i).fst.snd), ((getT tNote xs i).snd.fst.fst, (getT tNote xs i).snd.fst.snd), (getT tNote xs i).snd.snd.fst, (getT tNote xs i).snd.snd.snd.fst, (getT tNote xs i).snd.snd.snd.snd)).snd.snd.snd.fst, (reF (v.fst, v.snd) (((getT tNote xs i).fst.fst, (getT tNote xs i).fst.snd), ((getT tNote xs i).snd.fst.fst, (getT tNote xs i).snd.fst.snd), (getT tNote xs i).snd.snd.fst, (getT tNote xs i).snd.snd.snd.fst, (getT tNote xs i).snd.snd.snd.snd)).snd.snd.snd.snd)]), .int .i64 (i + (1 : Int))], []⟩)))))) (.leaf ((.exit 0), ⟨[.clo 79 [.velt (I64.pair I64) (v) ((0 : Nat))], .ptr 2 0, .ptr 4 0, .int .i64 (r), .ptr 2 0, .view (tFrac.pair (tFrac.pair (I64.pair (I64.pair I64)))) (xs), .int .i64 (n)], [.box [.view (tFrac.pair (tFrac.pair (I64.pair (I64.pair I64)))) (zs)], .box [.nilS]], [.own (tFrac.pair (tFrac.pair (I64.pair (I64.pair I64)))) (out), .int .i64 (i)], []⟩)) := by kernel_rfl
  rw [htree]
  clear htree
  replace hp : ((0 ≤ i ∧ i ≤ n) ∧ n = (xs.length : Int) ∧ xs.length ≤ 60 ∧ (out.length : Int) = i) ∧ notesF xs = true := hp
  simp only [Tree.ok, tyd_inj, packAV, AV.same, AV.same.sameL, encV, encS, enc, inK, Nd.ok, List.headD_cons, List.cons_append, List.nil_append, List.append_nil, true_and, and_true, Bool.true_and, Bool.and_true, loop_next, weakBs_nil, weakBs_cons, weakB_self, weakB_row, weakB_int, weakL_nil, weakL_unk, weakL_guess, isRow_own, isRow_unk, weakL_int, weakL_bool, weakL_str, weakL_own, weakL_view, weakL_nilS, noRow_int, noRow_bool, own_inj, LTree.val, cond_true, cond_false, Prod.mk.injEq, List.cons.injEq, AV.int.injEq, AV.bool.injEq, AV.str.injEq, AV.agg.injEq, ann_changedReverse_0, decide_eq_true_eq, decide_eq_false_iff_not, getT, etaN]
  try simp only [etaF]
  refine ⟨fun ha => ?_, fun ha => ?_⟩
  · have h1 := map_step (reF v) xs i.toNat tNote.zero (by omega)
    have g1 := notesF_get hp.2 i.toNat tNote.zero (by omega)
    rw [show (i + 1).toNat = i.toNat + 1 by omega, h1]
    simp only [List.length_append, List.length_cons, List.length_nil, List.append_assoc, List.cons_append, List.nil_append]
    repeat' first | apply And.intro | intro _
    all_goals first | omega | assumption | exact hp.2.1 | exact hp.2.2 | exact hp.2 | trivial | rfl
  · rw [show i.toNat = xs.length by omega, List.drop_length]
    simp [Tree.ok, tyd_inj, packAV, AV.same, AV.same.sameL, encV, encS, enc, inK, Nd.ok, List.headD_cons, List.cons_append, List.nil_append, List.append_nil, true_and, and_true, Bool.true_and, Bool.and_true, loop_next, weakBs_nil, weakBs_cons, weakB_self, weakB_row, weakB_int, weakL_nil, weakL_unk, weakL_guess, isRow_own, isRow_unk, weakL_int, weakL_bool, weakL_str, weakL_own, weakL_view, weakL_nilS, noRow_int, noRow_bool, own_inj, LTree.val, cond_true, cond_false, Prod.mk.injEq, List.cons.injEq, AV.int.injEq, AV.bool.injEq, AV.str.injEq, AV.agg.injEq]
    omega
theorem loops_changedReverse : ∀ c, Try.f66.body = some c → LoopsOk Try.prog (addL (firstId (loopAt Try.f66 0)) ann_changedReverse_0 noL) Try.f66.ntmps c := loopsN fun i hi ann h => by
  have hn : loopN Try.f66 = 1 := by kernel_rfl
  rw [hn] at hi
  exact match i, hi, h with
    | 0, _, h => (Option.some.inj ((show (addL (firstId (loopAt Try.f66 0)) ann_changedReverse_0 noL) (firstId (loopAt Try.f66 0)) = some ann_changedReverse_0 from by kernel_rfl).symm.trans h)) ▸ loop_changedReverse_0
set_option maxHeartbeats 1000000 in
theorem sat_changedReverse : Sat Try.prog 66 ct_changedReverse := by
  refine sat_typed (C := C_Se_7) (L := (addL (firstId (loopAt Try.f66 0)) ann_changedReverse_0 noL)) (wr := false) mixedOk Try.func66 C_Se_7_ok (loops_changedReverse) (fun _ => by first | rfl | (simp [ownsOf, ownsOf.ownsL, enc, encV, encS])) fun x hp => ?_
  obtain ⟨(xs : List tNote.den), (v : tFrac.den), _⟩ := x
  replace hp : scoreF xs = true := hp
  have htree : exFunc Try.prog C_Se_7 false (addL (firstId (loopAt Try.f66 0)) ann_changedReverse_0 noL) Try.f66 (encA [.s qNote, .c1 79 tFrac] (xs, v, ())) = .need ((((0 : Int) ≤ (0 : Int) ∧ (0 : Int) ≤ (↑xs.length : Int)) ∧ (↑xs.length : Int) = (↑xs.length : Int) ∧ xs.length ≤ (60 : Nat) ∧ (↑(0 : Nat) : Int) = (0 : Int)) ∧ notesF xs = true) (.need ((↑([] ++ List.map (reF v) (List.drop (Int.toNat (0 : Int)) xs)).length : Int) ≤ (9223372036854775807 : Int)) (.ite (!notesF ([] ++ List.map (reF v) (List.drop (Int.toNat (0 : Int)) xs))) (.leaf [.agg [.nilS], .int .i64 ((2 : Int))]) (.need (([] ++ List.map (reF v) (List.drop (Int.toNat (0 : Int)) xs)).length ≤ (1000 : Nat) ∧ AllOk goodN ([] ++ List.map (reF v) (List.drop (Int.toNat (0 : Int)) xs))) (.need ((srt ltN ([] ++ List.map (reF v) (List.drop (Int.toNat (0 : Int)) xs))).length ≤ (1000 : Nat) ∧ AllOk goodN (srt ltN ([] ++ List.map (reF v) (List.drop (Int.toNat (0 : Int)) xs)))) (.ite (twinB (srt ltN ([] ++ List.map (reF v) (List.drop (Int.toNat (0 : Int)) xs)))) (.leaf [.agg [.nilS], .int .i64 ((4 : Int))]) (.leaf [.agg [.own (tFrac.pair (tFrac.pair (I64.pair (I64.pair I64)))) (srt ltN ([] ++ List.map (reF v) (List.drop (Int.toNat (0 : Int)) xs)))], .int .i64 ((0 : Int))])))))) := by kernel_rfl
  refine (congrArg (Tree.ok _) htree).mpr ?_
  clear htree
  have hs := scoreN hp
  have hk := @notesOk (xs.map (reF v))
  have hl : (xs.map (reF v)).length = xs.length := List.length_map _
  simp only [Tree.ok, tyd_inj, packAV, AV.same, AV.same.sameL, encV, encS, enc, inK, Nd.ok, List.headD_cons, List.cons_append, List.nil_append, List.append_nil, true_and, and_true, Bool.true_and, Bool.and_true, makeS, Int.toNat_zero, List.drop_zero, List.nil_append, srt_len]
  generalize xs.map (reF v) = ys at *
  cases h2 : notesF ys
  · simp
    repeat' first | apply And.intro | intro _
    all_goals first | omega | exact hs.1 | exact hs.2 | exact hp.2 | trivial | assumption
  · have hk := hk h2
    cases h3 : twinB (srt ltN ys)
    all_goals
      simp only [if_true, Bool.not_true, Bool.false_eq_true, if_false]
      repeat' first | apply And.intro | intro _
      all_goals first | omega | exact hk _ ‹_› | exact hk.srt _ ‹_› | exact hs.1 | exact hs.2 | exact hp.2 | trivial | assumption | contradiction | rfl | (simp at *; done)
def C_Se_8 : FuncId → Option Ct := addC 66 ct_changedReverse C_Se_7
theorem C_Se_8_ok : COk Try.prog C_Se_8 := addC_ok C_Se_7_ok sat_changedReverse
def ct_iReverse : Ct := ctOf [.s qNote] (fun ((xs : List tNote.den), _) => .p ((xs.length : Int) ≤ 9223372036854775807)) (fun ((xs : List tNote.den), _) => .tup [.agg [.own tNote (keyS true (reF (endF xs)) xs).1], .int .i64 (keyS true (reF (endF xs)) xs).2])
set_option maxHeartbeats 1000000 in
theorem sat_iReverse : Sat Try.prog 23 ct_iReverse := by
  refine sat_typed (C := C_Se_8) (L := noL) (wr := false) mixedOk Try.func23 C_Se_8_ok (loops0 (by kernel_rfl)) (fun _ => by first | rfl | (simp [ownsOf, ownsOf.ownsL, enc, encV, encS])) fun x hp => ?_
  obtain ⟨(xs : List tNote.den), _⟩ := x
  replace hp : (xs.length : Int) ≤ 9223372036854775807 := hp
  have htree : exFunc Try.prog C_Se_8 false noL Try.f23 (encA [.s qNote] (xs, ())) = .need ((↑xs.length : Int) ≤ (9223372036854775807 : Int)) (.ite (!scoreF xs) (.leaf [.agg [.nilS], .int .i64 ((1 : Int))]) (.need (scoreF xs = true) (.need (scoreF xs = true) (.leaf [.agg [.own (tFrac.pair (tFrac.pair (I64.pair (I64.pair I64)))) ((makeS (List.map (reF ((endF xs).fst, (endF xs).snd)) xs)).fst)], .int .i64 ((makeS (List.map (reF ((endF xs).fst, (endF xs).snd)) xs)).snd)])))) := by kernel_rfl
  refine (congrArg (Tree.ok _) htree).mpr ?_
  clear htree
  simp only [Tree.ok, tyd_inj, packAV, AV.same, AV.same.sameL, encV, encS, enc, inK, Nd.ok, List.headD_cons, List.cons_append, List.nil_append, List.append_nil, true_and, and_true, Bool.true_and, Bool.and_true, keyS, strS, decide_eq_true_eq, decide_eq_false_iff_not]
  cases hs : scoreF xs
  · simp; omega
  · try simp only [etaF]
    simp
    try omega
def C_Se_9 : FuncId → Option Ct := addC 23 ct_iReverse C_Se_8
theorem C_Se_9_ok : COk Try.prog C_Se_9 := addC_ok C_Se_8_ok sat_iReverse

def C_Se : FuncId → Option Ct := C_Se_9
theorem C_Se_ok : COk Try.prog C_Se := C_Se_9_ok
end Go.Proofs.Ytjgjcggecikdpaa
