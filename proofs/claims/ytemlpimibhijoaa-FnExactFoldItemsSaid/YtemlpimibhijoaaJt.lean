/- Contracts: items taken over, whose pitches are their own. Conditions: as each says. -/
import Derived.Test.YtemlpimibhijoaaHf
set_option linter.unusedSimpArgs false
set_option linter.unusedVariables false
namespace Go.Proofs.Ytemlpimibhijoaa
open Go.RowKit Sx
set_option maxRecDepth 100000
set_option maxHeartbeats 1000000
def C_JtB : FuncId → Option Ct := addC 69 ct_toPitchS (addC 71 ct_toIv C_Hf)
theorem C_JtB_ok : COk Try.prog C_JtB := addC_ok (addC_ok C_Hf_ok sat_toIv) sat_toPitchS
def ct_toItemD : Ct := ctOf [.s tItem] (fun ((x : tItem.den), _) => .p (pLen x.2.1 ≤ 16777216)) (fun ((x : tItem.den), _) => .agg [.int .i64 x.1, .own tPitch x.2.1, .int .i64 x.2.2.1.1, .int .i64 x.2.2.1.2, .int .i64 x.2.2.2.1, .int .i64 x.2.2.2.2.1.1, .int .i64 x.2.2.2.2.1.2, .int .i64 x.2.2.2.2.2])
set_option maxHeartbeats 1000000 in
theorem sat_toItemD : Sat Try.prog 31 ct_toItemD := by
  refine sat_typed (C := C_JtB) (L := noL) (wr := false) mixedOk Try.func31 C_JtB_ok (loops0 (by kernel_rfl)) (fun _ => by first | rfl | (simp [ownsOf, ownsOf.ownsL, enc, encV, encS])) fun x hp => ?_
  obtain ⟨(x : tItem.den), _⟩ := x
  replace hp : pLen x.2.1 ≤ 16777216 := hp
  have htree : exFunc Try.prog C_JtB false noL Try.f31 (encA [.s tItem] (x, ())) = .need (List.length x.snd.fst ≤ (16777216 : Nat)) (.leaf [.agg [.int .i64 (x.fst), .own (I64.pair (I64.pair I64)) (x.snd.fst), .int .i64 (x.snd.snd.fst.fst), .int .i64 (x.snd.snd.fst.snd), .int .i64 (x.snd.snd.snd.fst), .int .i64 (x.snd.snd.snd.snd.fst.fst), .int .i64 (x.snd.snd.snd.snd.fst.snd), .int .i64 (x.snd.snd.snd.snd.snd)]]) := by kernel_rfl
  refine (congrArg (Tree.ok _) htree).mpr ?_
  clear htree
  simp only [pLen] at hp
  simp [Tree.ok, tyd_inj, packAV, AV.same, AV.same.sameL, encV, encS, enc, inK, Nd.ok, List.headD_cons, List.cons_append, List.nil_append, List.append_nil, true_and, and_true, Bool.true_and, Bool.and_true]
  omega
def C_Jt_1 : FuncId → Option Ct := addC 31 ct_toItemD C_JtB
theorem C_Jt_1_ok : COk Try.prog C_Jt_1 := addC_ok C_JtB_ok sat_toItemD
def ann_toItemSD_0 : LAnn := { sameS := [0], modS := [3, 4], sameH := [], modH := [], base := 900000, nilE := [], nilB := [], G := fun
  | ⟨[.view (.pair (.int .i64) (.pair (.seq (.pair (.int .i64) (.pair (.int .i64) (.int .i64)))) (.pair (.pair (.int .i64) (.int .i64)) (.pair (.int .i64) (.pair (.pair (.int .i64) (.int .i64)) (.int .i64)))))) ys], [], [.own (.deep (.pair (.int .i64) (.pair (.seq (.pair (.int .i64) (.pair (.int .i64) (.int .i64)))) (.pair (.pair (.int .i64) (.int .i64)) (.pair (.int .i64) (.pair (.pair (.int .i64) (.int .i64)) (.int .i64))))))) xs, .int .i64 i], []⟩ => some (.p (((0 ≤ i ∧ i ≤ (ys.length : Int)) ∧ xs.length = ys.length ∧ ys.length ≤ 16777216) ∧ ∀ z ∈ ys, pLen z.2.1 ≤ 16777216), .leaf (.exit 0) [.own (.deep tItem) (xs.take i.toNat ++ ys.drop i.toNat), .int .i64 (ys.length : Int)] [])
  | _ => none }
def ct_toItemSD : Ct := ctOf [.v qItem] (fun ((ys : List tItem.den), _) => .p (ys.length ≤ 16777216 ∧ ∀ z ∈ ys, pLen z.2.1 ≤ 16777216)) (fun ((ys : List tItem.den), _) => .own (.deep tItem) ys)
set_option maxHeartbeats 1000000 in
theorem loop_toItemSD_0 : LoopSat Try.prog Try.f9.ntmps (loopAt Try.f9 0) ann_toItemSD_0 := by
  refine loopSat_of (C := (addC 900000000 ctDeep C_Jt_1)) (L := (addL (firstId (loopAt Try.f9 0)) ann_toItemSD_0 noL)) (wr := false) mixedOk (addC_ok C_Jt_1_ok sat_deep) (loopsIn0 (by kernel_rfl)) (fun d => match d.same, d.vals with | [.view _ ys], [_, .int _ i] => ((ys.length : Int) - i).toNat | _, _ => 0) fun d p t hG hp => ?_
  simp only [ann_toItemSD_0] at hG
  split at hG
  rotate_left
  · simp at hG
  rename_i ys xs i
  simp only [Option.some.injEq, Prod.mk.injEq] at hG
  obtain ⟨rfl, rfl⟩ := hG
  have htree : exRound Try.prog (addC 900000000 ctDeep C_Jt_1) false (addL (firstId (loopAt Try.f9 0)) ann_toItemSD_0 noL) Try.f9.ntmps ann_toItemSD_0 (loopAt Try.f9 0) ⟨[.view tItem ys], [], [.own (.deep tItem) xs, .int .i64 i], []⟩ = .ite (decide (i < (↑ys.length : Int))) (.need ((0 : Int) ≤ i ∧ i < (↑ys.length : Int)) (.need (pLen (getT tItem ys i).snd.fst ≤ (16777216 : Int)) (.need ((0 : Int) ≤ i ∧ i < (↑xs.length : Int)) (.need (i.toNat < xs.length) (.need (inK IntKind.i64 (i + (1 : Int))) (.leaf (.normal, ⟨[.view (I64.pair (tPitch.seq.pair (tFrac.pair (I64.pair (tIv.pair I64))))) (ys)], [], [.own (tItem.deep) (xs.set i.toNat ((getT tItem ys i).fst, (getT tItem ys i).snd.fst, ((getT tItem ys i).snd.snd.fst.fst, (getT tItem ys i).snd.snd.fst.snd), (getT tItem ys i).snd.snd.snd.fst, ((getT tItem ys i).snd.snd.snd.snd.fst.fst, (getT tItem ys i).snd.snd.snd.snd.fst.snd), (getT tItem ys i).snd.snd.snd.snd.snd)), .int .i64 (i + (1 : Int))], []⟩))))))) (.leaf ((.exit 0), ⟨[.view (I64.pair (tPitch.seq.pair (tFrac.pair (I64.pair (tIv.pair I64))))) (ys)], [], [.own (tItem.deep) (xs), .int .i64 (i)], []⟩)) := by kernel_rfl
  rw [htree]
  clear htree
  replace hp : ((0 ≤ i ∧ i ≤ (ys.length : Int)) ∧ xs.length = ys.length ∧ ys.length ≤ 16777216) ∧ ∀ z ∈ ys, pLen z.2.1 ≤ 16777216 := hp
  obtain ⟨hp, hq⟩ := hp
  have hz := item_at (by omega) hq i.toNat
  simp only [Tree.ok, tyd_inj, packAV, AV.same, AV.same.sameL, encV, encS, enc, inK, Nd.ok, List.headD_cons, List.cons_append, List.nil_append, List.append_nil, true_and, and_true, Bool.true_and, Bool.and_true, loop_next, weakBs_nil, weakBs_cons, weakB_self, weakB_row, weakB_int, weakL_nil, weakL_unk, weakL_guess, isRow_own, isRow_unk, weakL_int, weakL_bool, weakL_str, weakL_own, weakL_view, weakL_nilS, noRow_int, noRow_bool, own_inj, LTree.val, cond_true, cond_false, Prod.mk.injEq, List.cons.injEq, AV.int.injEq, AV.bool.injEq, AV.str.injEq, AV.agg.injEq, ann_toItemSD_0, decide_eq_true_eq, decide_eq_false_iff_not]
  refine ⟨fun ha => ?_, fun ha => ?_⟩
  · have h1 := set_front xs ys i.toNat tItem.zero (by omega) hp.2.1
    repeat' first | apply And.intro | intro _
    all_goals first | omega | exact hz | exact hq _ ‹_› | (rw [List.length_set]; exact hp.2.1) | skip
    rw [show (i + 1).toNat = i.toNat + 1 by omega]
    exact h1
  · have h1 : i.toNat = ys.length := by omega
    rw [h1]
    exact ⟨by simp [List.take_of_length_le (show xs.length ≤ ys.length by omega)], by omega⟩
theorem loops_toItemSD : ∀ c, Try.f9.body = some c → LoopsOk Try.prog (addL (firstId (loopAt Try.f9 0)) ann_toItemSD_0 noL) Try.f9.ntmps c := loopsN fun i hi ann h => by
  have hn : loopN Try.f9 = 1 := by kernel_rfl
  rw [hn] at hi
  exact match i, hi, h with
    | 0, _, h => (Option.some.inj ((show (addL (firstId (loopAt Try.f9 0)) ann_toItemSD_0 noL) (firstId (loopAt Try.f9 0)) = some ann_toItemSD_0 from by kernel_rfl).symm.trans h)) ▸ loop_toItemSD_0
set_option maxHeartbeats 1000000 in
theorem sat_toItemSD : Sat Try.prog 9 ct_toItemSD := by
  refine sat_typed (C := (addC 900000000 ctDeep C_Jt_1)) (L := (addL (firstId (loopAt Try.f9 0)) ann_toItemSD_0 noL)) (wr := false) mixedOk Try.func9 (addC_ok C_Jt_1_ok sat_deep) (loops_toItemSD) (fun _ => by first | rfl | (simp [ownsOf, ownsOf.ownsL, enc, encV, encS])) fun x hp => ?_
  obtain ⟨(ys : List tItem.den), _⟩ := x
  replace hp : ys.length ≤ 16777216 ∧ ∀ z ∈ ys, pLen z.2.1 ≤ 16777216 := hp
  have htree : exFunc Try.prog (addC 900000000 ctDeep C_Jt_1) false (addL (firstId (loopAt Try.f9 0)) ann_toItemSD_0 noL) Try.f9 (encA [.v qItem] (ys, ())) = .need ((0 : Int) ≤ (↑ys.length : Int) ∧ (↑ys.length : Int) ≤ (↑ys.length : Int) ∧ (↑ys.length : Int) ≤ (16777216 : Int)) (.need ((((0 : Int) ≤ (0 : Int) ∧ (0 : Int) ≤ (↑ys.length : Int)) ∧ (List.replicate (↑ys.length : Int).toNat ((0 : Int), ([] : List tPitch.den), ((0 : Int), (0 : Int)), (0 : Int), ((0 : Int), (0 : Int)), (0 : Int))).length = ys.length ∧ ys.length ≤ (16777216 : Nat)) ∧ ∀ (z : ((Ty.int IntKind.i64).pair (((Ty.int IntKind.i64).pair ((Ty.int IntKind.i64).pair (Ty.int IntKind.i64))).seq.pair (((Ty.int IntKind.i64).pair (Ty.int IntKind.i64)).pair ((Ty.int IntKind.i64).pair (((Ty.int IntKind.i64).pair (Ty.int IntKind.i64)).pair (Ty.int IntKind.i64)))))).den), z ∈ ys → pLen z.snd.fst ≤ (16777216 : Int)) (.leaf [.own (tItem.deep) (List.take (Int.toNat (0 : Int)) (List.replicate (↑ys.length : Int).toNat ((0 : Int), ([] : List tPitch.den), ((0 : Int), (0 : Int)), (0 : Int), ((0 : Int), (0 : Int)), (0 : Int))) ++ List.drop (Int.toNat (0 : Int)) ys)])) := by kernel_rfl
  refine (congrArg (Tree.ok _) htree).mpr ?_
  clear htree
  simp [Tree.ok, tyd_inj, packAV, AV.same, AV.same.sameL, encV, encS, enc, inK, Nd.ok, List.headD_cons, List.cons_append, List.nil_append, List.append_nil, true_and, and_true, Bool.true_and, Bool.and_true]
  repeat' first | apply And.intro | intro _
  all_goals first | omega | exact hp.2 _ ‹_› | grind
def C_Jt_2 : FuncId → Option Ct := addC 9 ct_toItemSD C_Jt_1
theorem C_Jt_2_ok : COk Try.prog C_Jt_2 := addC_ok C_Jt_1_ok sat_toItemSD

def C_Jt : FuncId → Option Ct := C_Jt_2
theorem C_Jt_ok : COk Try.prog C_Jt := C_Jt_2_ok
end Go.Proofs.Ytemlpimibhijoaa
