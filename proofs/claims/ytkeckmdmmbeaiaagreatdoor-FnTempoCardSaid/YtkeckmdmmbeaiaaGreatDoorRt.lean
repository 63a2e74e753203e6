/- Contracts: tempo maps read from their texts, by the program and the reference; the law on that. Conditions: as each says. -/
import Derived.Test.YtkeckmdmmbeaiaaGreatDoorRf
import Derived.Test.YtkeckmdmmbeaiaaGreatDoorUw
import Derived.Test.YtkeckmdmmbeaiaaGreatDoorUd
set_option linter.unusedSimpArgs false
set_option linter.unusedVariables false
namespace Go.Proofs.YtkeckmdmmbeaiaaGreatDoor
open Go.RowKit Sx
set_option maxRecDepth 100000
set_option maxHeartbeats 1000000
def C_RtB : FuncId → Option Ct := addC 48 ct_iReadFrac (addC 43 ct_sReadFrac (addC 44 ct_l02Int (addC 49 ct_ReadDecimal (addC 47 ct_Cut (addC 46 ct_SplitWords (addC 41 ct_l01Split C_Ud))))))
theorem C_RtB_ok : COk Tryz.prog C_RtB := addC_ok (addC_ok (addC_ok (addC_ok (addC_ok (addC_ok (addC_ok C_Ud_ok sat_l01Split) sat_SplitWords) sat_Cut) sat_ReadDecimal) sat_l02Int) sat_sReadFrac) sat_iReadFrac
theorem byte58 (b : UInt8) : ((b.toNat : Int) == 58) = decide (b = 58) := by
  rw [Bool.eq_iff_iff, beq_iff_eq, decide_eq_true_eq]
  constructor
  · intro h; have : b.toNat = 58 := by omega
    exact UInt8.toNat_inj.1 this
  · rintro rfl; rfl
def ann_l17Cut_0 : LAnn := { sameS := [0], modS := [2, 3, 4, 5], sameH := [], modH := [], base := 900000, nilE := [], nilB := [], G := fun
  | ⟨[.str s], [], [.str x, .str y, .bool r, .int .i64 i], []⟩ => some (.p ((0 ≤ i ∧ i ≤ (s.length : Int)) ∧ s.length ≤ 2000000 ∧ 58 ∉ s.take i.toNat), .ite (cutC 58 s).2.2 (.leaf .ret [.str (cutC 58 s).1, .str (cutC 58 s).2.1, .bool true, .unk] []) (.leaf (.exit 0) [.str x, .str y, .bool r, .unk] []))
  | _ => none }
def ct_l17Cut : Ct := ctOf [.v .str] (fun ((s : List UInt8), _) => .p (s.length ≤ 2000000)) (fun ((s : List UInt8), _) => .tup [.str (if (cutC 58 s).2.2 = true then (cutC 58 s).1 else []), .str (cutC 58 s).2.1, .bool (cutC 58 s).2.2])
set_option maxHeartbeats 1000000 in
theorem loop_l17Cut_0 : LoopSat Tryz.prog Tryz.f42.ntmps (loopAt Tryz.f42 0) ann_l17Cut_0 := by
  refine loopSat_of (C := C_RtB) (L := (addL (firstId (loopAt Tryz.f42 0)) ann_l17Cut_0 noL)) (wr := false) mixedOk C_RtB_ok (loopsIn0 (by kernel_rfl)) (fun d => match d.same, d.vals with | [.str s], [_, _, _, .int _ i] => ((s.length : Int) - i).toNat | _, _ => 0) fun d p t hG hp => ?_
  simp only [ann_l17Cut_0] at hG
  split at hG
  rotate_left
  · simp at hG
  rename_i s x y r i
  simp only [Option.some.injEq, Prod.mk.injEq] at hG
  obtain ⟨rfl, rfl⟩ := hG
  have htree : exRound Tryz.prog C_RtB false (addL (firstId (loopAt Tryz.f42 0)) ann_l17Cut_0 noL) Tryz.f42.ntmps ann_l17Cut_0 (loopAt Tryz.f42 0) ⟨[.str s], [], [.str x, .str y, .bool r, .int .i64 i], []⟩ = .ite (decide (i < (↑s.length : Int))) (.need ((0 : Int) ≤ i ∧ i < (↑s.length : Int)) (.ite ((↑(s.getD i.toNat (0 : UInt8)).toNat : Int) == (58 : Int)) (.need ((0 : Int) ≤ i ∧ i ≤ (↑s.length : Int)) (.need (inK IntKind.i64 (i + (1 : Int))) (.need ((0 : Int) ≤ i + (1 : Int) ∧ i + (1 : Int) ≤ (↑s.length : Int)) (.leaf (.ret, ⟨[.str (s)], [], [.str (cutL s (0 : Int) i), .str (cutL s (i + (1 : Int)) (↑s.length : Int)), .bool (true), .int .i64 (i)], []⟩))))) (.need (inK IntKind.i64 (i + (1 : Int))) (.leaf (.normal, ⟨[.str (s)], [], [.str (x), .str (y), .bool (r), .int .i64 (i + (1 : Int))], []⟩))))) (.leaf ((.exit 0), ⟨[.str (s)], [], [.str (x), .str (y), .bool (r), .int .i64 (i)], []⟩)) := by kernel_rfl
  rw [htree]
  clear htree
  replace hp : (0 ≤ i ∧ i ≤ (s.length : Int)) ∧ s.length ≤ 2000000 ∧ 58 ∉ s.take i.toNat := hp
  obtain ⟨hi, hl, hm⟩ := hp
  simp only [Tree.ok, tyd_inj, packAV, AV.same, AV.same.sameL, encV, encS, enc, inK, Nd.ok, List.headD_cons, List.cons_append, List.nil_append, List.append_nil, true_and, and_true, Bool.true_and, Bool.and_true, loop_next, weakBs_nil, weakBs_cons, weakB_self, weakB_row, weakB_int, weakL_nil, weakL_unk, weakL_guess, isRow_own, isRow_unk, weakL_int, weakL_bool, weakL_str, weakL_own, weakL_view, weakL_nilS, noRow_int, noRow_bool, own_inj, LTree.val, cond_true, cond_false, Prod.mk.injEq, List.cons.injEq, AV.int.injEq, AV.bool.injEq, AV.str.injEq, AV.agg.injEq, ann_l17Cut_0, byte58, decide_eq_true_eq, decide_eq_false_iff_not]
  refine ⟨fun ha => ?_, fun ha => ?_⟩
  · by_cases hb : s.getD i.toNat 0 = 58
    · have hc := cut_here (c := 58) (s := s) (i := i.toNat) (by omega) hm hb
      have e1 : ((i.toNat : Nat) : Int) = i := by omega
      rw [e1] at hc
      rw [hc]
      simp only [hb]
      repeat' first | apply And.intro | intro _
      all_goals first | omega | trivial | rfl | contradiction | (simp [Tree.ok, tyd_inj, packAV, AV.same, AV.same.sameL, encV, encS, enc, inK, Nd.ok, List.headD_cons, List.cons_append, List.nil_append, List.append_nil, true_and, and_true, Bool.true_and, Bool.and_true, loop_next, weakBs_nil, weakBs_cons, weakB_self, weakB_row, weakB_int, weakL_nil, weakL_unk, weakL_guess, isRow_own, isRow_unk, weakL_int, weakL_bool, weakL_str, weakL_own, weakL_view, weakL_nilS, noRow_int, noRow_bool, own_inj, LTree.val, cond_true, cond_false, Prod.mk.injEq, List.cons.injEq, AV.int.injEq, AV.bool.injEq, AV.str.injEq, AV.agg.injEq]; done) | (simp_all [Tree.ok, tyd_inj, packAV, AV.same, AV.same.sameL, encV, encS, enc, inK, Nd.ok, List.headD_cons, List.cons_append, List.nil_append, List.append_nil, true_and, and_true, Bool.true_and, Bool.and_true, loop_next, weakBs_nil, weakBs_cons, weakB_self, weakB_row, weakB_int, weakL_nil, weakL_unk, weakL_guess, isRow_own, isRow_unk, weakL_int, weakL_bool, weakL_str, weakL_own, weakL_view, weakL_nilS, noRow_int, noRow_bool, own_inj, LTree.val, cond_true, cond_false, Prod.mk.injEq, List.cons.injEq, AV.int.injEq, AV.bool.injEq, AV.str.injEq, AV.agg.injEq]; done) | (trace_state; fail)
    · have hm2 := take_more (c := 58) (s := s) (i := i.toNat) (by omega) hm hb
      simp only [hb, false_implies, not_false_eq_true, true_implies]
      rw [show (i + 1).toNat = i.toNat + 1 by omega]
      repeat' first | apply And.intro | intro _
      all_goals first | omega | exact hm2 | trivial | rfl | contradiction | (simp [Tree.ok, tyd_inj, packAV, AV.same, AV.same.sameL, encV, encS, enc, inK, Nd.ok, List.headD_cons, List.cons_append, List.nil_append, List.append_nil, true_and, and_true, Bool.true_and, Bool.and_true, loop_next, weakBs_nil, weakBs_cons, weakB_self, weakB_row, weakB_int, weakL_nil, weakL_unk, weakL_guess, isRow_own, isRow_unk, weakL_int, weakL_bool, weakL_str, weakL_own, weakL_view, weakL_nilS, noRow_int, noRow_bool, own_inj, LTree.val, cond_true, cond_false, Prod.mk.injEq, List.cons.injEq, AV.int.injEq, AV.bool.injEq, AV.str.injEq, AV.agg.injEq]; done) | (simp_all [Tree.ok, tyd_inj, packAV, AV.same, AV.same.sameL, encV, encS, enc, inK, Nd.ok, List.headD_cons, List.cons_append, List.nil_append, List.append_nil, true_and, and_true, Bool.true_and, Bool.and_true, loop_next, weakBs_nil, weakBs_cons, weakB_self, weakB_row, weakB_int, weakL_nil, weakL_unk, weakL_guess, isRow_own, isRow_unk, weakL_int, weakL_bool, weakL_str, weakL_own, weakL_view, weakL_nilS, noRow_int, noRow_bool, own_inj, LTree.val, cond_true, cond_false, Prod.mk.injEq, List.cons.injEq, AV.int.injEq, AV.bool.injEq, AV.str.injEq, AV.agg.injEq]; done) | (trace_state; fail)
  · have hno : cutC 58 s = (s, [], false) := by
      rw [List.take_of_length_le (by omega)] at hm
      exact cutC_miss _ hm
    rw [hno]
    simp [Tree.ok, tyd_inj, packAV, AV.same, AV.same.sameL, encV, encS, enc, inK, Nd.ok, List.headD_cons, List.cons_append, List.nil_append, List.append_nil, true_and, and_true, Bool.true_and, Bool.and_true, loop_next, weakBs_nil, weakBs_cons, weakB_self, weakB_row, weakB_int, weakL_nil, weakL_unk, weakL_guess, isRow_own, isRow_unk, weakL_int, weakL_bool, weakL_str, weakL_own, weakL_view, weakL_nilS, noRow_int, noRow_bool, own_inj, LTree.val, cond_true, cond_false, Prod.mk.injEq, List.cons.injEq, AV.int.injEq, AV.bool.injEq, AV.str.injEq, AV.agg.injEq]
theorem loops_l17Cut : ∀ c, Tryz.f42.body = some c → LoopsOk Tryz.prog (addL (firstId (loopAt Tryz.f42 0)) ann_l17Cut_0 noL) Tryz.f42.ntmps c := loopsN fun i hi ann h => by
  have hn : loopN Tryz.f42 = 1 := by kernel_rfl
  rw [hn] at hi
  exact match i, hi, h with
    | 0, _, h => (Option.some.inj ((show (addL (firstId (loopAt Tryz.f42 0)) ann_l17Cut_0 noL) (firstId (loopAt Tryz.f42 0)) = some ann_l17Cut_0 from by kernel_rfl).symm.trans h)) ▸ loop_l17Cut_0
set_option maxHeartbeats 1000000 in
theorem sat_l17Cut : Sat Tryz.prog 42 ct_l17Cut := by
  refine sat_typed (C := C_RtB) (L := (addL (firstId (loopAt Tryz.f42 0)) ann_l17Cut_0 noL)) (wr := false) mixedOk Tryz.func42 C_RtB_ok (loops_l17Cut) (fun _ => by first | rfl | (simp [ownsOf, ownsOf.ownsL, enc, encV, encS])) fun x hp => ?_
  obtain ⟨(s : List UInt8), _⟩ := x
  replace hp : s.length ≤ 2000000 := hp
  have htree : exFunc Tryz.prog C_RtB false (addL (firstId (loopAt Tryz.f42 0)) ann_l17Cut_0 noL) Tryz.f42 (encA [.v .str] (s, ())) = .need (((0 : Int) ≤ (0 : Int) ∧ (0 : Int) ≤ (↑s.length : Int)) ∧ s.length ≤ (2000000 : Nat) ∧ ¬(58 : UInt8) ∈ List.take (Int.toNat (0 : Int)) s) (.ite ((cutC (58 : UInt8) s).snd.snd) (.leaf [.str ((cutC (58 : UInt8) s).fst), .str ((cutC (58 : UInt8) s).snd.fst), .bool (true)]) (.leaf [.str (([] : List UInt8)), .str (([] : List UInt8)), .lit false])) := by kernel_rfl
  refine (congrArg (Tree.ok _) htree).mpr ?_
  clear htree
  have hp : s.length ≤ 2000000 := hp
  rcases cutC_cases 58 s with ⟨_, e⟩ | ⟨a, r, _, _, e⟩
  · simp only [e]
    simp [Tree.ok, tyd_inj, packAV, AV.same, AV.same.sameL, encV, encS, enc, inK, Nd.ok, List.headD_cons, List.cons_append, List.nil_append, List.append_nil, true_and, and_true, Bool.true_and, Bool.and_true]
    omega
  · simp only [e]
    simp [Tree.ok, tyd_inj, packAV, AV.same, AV.same.sameL, encV, encS, enc, inK, Nd.ok, List.headD_cons, List.cons_append, List.nil_append, List.append_nil, true_and, and_true, Bool.true_and, Bool.and_true]
    omega
def C_Rt_1 : FuncId → Option Ct := addC 42 ct_l17Cut C_RtB
theorem C_Rt_1_ok : COk Tryz.prog C_Rt_1 := addC_ok C_RtB_ok sat_l17Cut
/-- What is read until something fails. -/
def preM {α : Type} (f : Bs → Option α) : List Bs → List α
  | [] => []
  | w :: ws => match f w with
    | some x => x :: preM f ws
    | none => []
theorem preM_at {α : Type} (f : Bs → Option α) (ws : List Bs) (i : Nat) (h : i < ws.length) : preM f (ws.drop i) = match f (ws.getD i []) with
    | some x => x :: preM f (ws.drop (i + 1))
    | none => [] := by
  rw [List.drop_eq_getElem_cons h, getD_lt _ _ _ h, preM]
theorem preM_all {α : Type} {f : Bs → Option α} : ∀ (ws : List Bs) (l : List α), allM f ws = some l → preM f ws = l
  | [], l, h => by simp only [allM, Option.some.injEq] at h; subst h; rfl
  | w :: ws, l, h => by
    rw [allM] at h
    rw [preM]
    cases hf : f w with
    | none => rw [hf] at h; simp at h
    | some x =>
      rw [hf] at h
      cases hl : allM f ws with
      | none => rw [hl] at h; simp at h
      | some l' =>
        rw [hl] at h
        simp only [Option.some.injEq] at h
        subst h
        show x :: preM f ws = _
        rw [preM_all ws l' hl]
theorem words_len {s : Bs} : ∀ w ∈ wordsF s, w.length ≤ s.length := fun w hw => splitC_mem_len 32 s w (List.mem_filter.1 hw).1
theorem wordsF_len (s : Bs) : (wordsF s).length ≤ s.length + 1 := Nat.le_trans (List.length_filter_le _ _) (splitC_len 32 s)
theorem getD_mem_len {ws : List Bs} {m : Nat} (h : ∀ w ∈ ws, w.length ≤ m) (i : Nat) (hi : i < ws.length) : (ws.getD i []).length ≤ m := by
  rw [getD_lt _ _ _ hi]; exact h _ (List.getElem_mem _)
def ann_iReadTempos_0 : LAnn := { sameS := [0, 2, 4, 16, 17], modS := [3, 18], sameH := [16], modH := [2, 4], base := 900000, nilE := [], nilB := [⟨4, 0, 800000, tTempo⟩], G := fun
  | ⟨[.str s, .ptr 2 0, .ptr 4 0, .row 16, .int .i64 n], [.row .str ws], [.bool r, .int .i64 i], [[.nilS], [.own (.pair (.pair (.int .i64) (.int .i64)) (.int .i64)) out]]⟩ => some (.p (n = (ws.length : Int) ∧ (0 ≤ i ∧ i ≤ n) ∧ n ≤ 2000000 ∧ (out.length : Int) ≤ i ∧ (∀ w ∈ ws, w.length ≤ 2000000)), .ite (allM wdI (ws.drop i.toNat)).isSome (.leaf (.exit 0) [.bool r, .unk] [[.nilS], [.own tTempo (out ++ preM wdI (ws.drop i.toNat))]]) (.leaf .ret [.bool false, .unk] [[.nilS], [.own tTempo (out ++ preM wdI (ws.drop i.toNat))]]))
  | _ => none }
def ct_iReadTempos : Ct := ctOf [.v .str] (fun ((s : List UInt8), _) => .p (s.length ≤ 1048576)) (fun ((s : List UInt8), _) => .tup [.agg [.own tTempo (tmI s).1], .bool (tmI s).2])
set_option maxHeartbeats 1000000 in
theorem loop_iReadTempos_0 : LoopSat Tryz.prog Tryz.f8.ntmps (loopAt Tryz.f8 0) ann_iReadTempos_0 := by
  refine loopSat_of (C := C_Rt_1) (L := (addL (firstId (loopAt Tryz.f8 0)) ann_iReadTempos_0 noL)) (wr := false) mixedOk C_Rt_1_ok (loopsIn0 (by kernel_rfl)) (fun d => match d.same, d.vals with | [_, _, _, _, .int _ n], [_, .int _ i] => (n - i).toNat | _, _ => 0) fun d p t hG hp => ?_
  simp only [ann_iReadTempos_0] at hG
  split at hG
  rotate_left
  · simp at hG
  rename_i s n ws r i out
  simp only [Option.some.injEq, Prod.mk.injEq] at hG
  obtain ⟨rfl, rfl⟩ := hG
  have htree : exRound Tryz.prog C_Rt_1 false (addL (firstId (loopAt Tryz.f8 0)) ann_iReadTempos_0 noL) Tryz.f8.ntmps ann_iReadTempos_0 (loopAt Tryz.f8 0) ⟨[.str s, .ptr 2 0, .ptr 4 0, .row 16, .int .i64 n], [.row .str ws], [.bool r, .int .i64 i], [[.nilS], [.own tTempo out]]⟩ = .ite (decide (i < n)) (.need ((0 : Int) ≤ i ∧ i < (↑ws.length : Int)) (.need (i.toNat < ws.length) (.need (List.length (ws.getD i.toNat Ty.str.zero) ≤ (4000000000 : Nat)) (.need ((Lib.cut (ws.getD i.toNat Ty.str.zero) #[(58 : UInt8)].toList).fst.length ≤ (2000000 : Nat)) (.need ((Lib.cut (ws.getD i.toNat Ty.str.zero) #[(58 : UInt8)].toList).snd.fst.length ≤ (100000000 : Nat)) (.ite (!(frI (Lib.cut (ws.getD i.toNat Ty.str.zero) #[(58 : UInt8)].toList).fst).snd) (.leaf (.ret, ⟨[.str (s), .ptr 2 0, .ptr 4 0, .row 16, .int .i64 (n)], [.row (Ty.str) (ws)], [.bool (false), .int .i64 (i)], [[.nilS], [.own (tFrac.pair I64) (out)]]⟩)) (.ite (!(readD (Lib.cut (ws.getD i.toNat Ty.str.zero) #[(58 : UInt8)].toList).snd.fst).snd) (.leaf (.ret, ⟨[.str (s), .ptr 2 0, .ptr 4 0, .row 16, .int .i64 (n)], [.row (Ty.str) (ws)], [.bool (false), .int .i64 (i)], [[.nilS], [.own (tFrac.pair I64) (out)]]⟩)) (.need (out.length + [(((frI (Lib.cut (ws.getD i.toNat Ty.str.zero) #[(58 : UInt8)].toList).fst).fst.fst, (frI (Lib.cut (ws.getD i.toNat Ty.str.zero) #[(58 : UInt8)].toList).fst).fst.snd), (readD (Lib.cut (ws.getD i.toNat Ty.str.zero) #[(58 : UInt8)].toList).snd.fst).fst)].length ≤ (16777216 : Nat)) (.need (inK IntKind.i64 (i + (1 : Int))) (.leaf (.normal, ⟨[.str (s), .ptr 2 0, .ptr 4 0, .row 16, .int .i64 (n)], [.row (Ty.str) (ws)], [.bool (r), .int .i64 (i + (1 : Int))], [[.nilS], [.own (tFrac.pair I64) (out ++ [(((frI (Lib.cut (ws.getD i.toNat Ty.str.zero) #[(58 : UInt8)].toList).fst).fst.fst, (frI (Lib.cut (ws.getD i.toNat Ty.str.zero) #[(58 : UInt8)].toList).fst).fst.snd), (readD (Lib.cut (ws.getD i.toNat Ty.str.zero) #[(58 : UInt8)].toList).snd.fst).fst)])]]⟩))))))))))) (.leaf ((.exit 0), ⟨[.str (s), .ptr 2 0, .ptr 4 0, .row 16, .int .i64 (n)], [.row (Ty.str) (ws)], [.bool (r), .int .i64 (i)], [[.nilS], [.own (tFrac.pair I64) (out)]]⟩)) := by kernel_rfl
  rw [htree]
  clear htree
  replace hp : n = (ws.length : Int) ∧ (0 ≤ i ∧ i ≤ n) ∧ n ≤ 2000000 ∧ (out.length : Int) ≤ i ∧ (∀ w ∈ ws, w.length ≤ 2000000) := hp
  obtain ⟨rfl, hi, hn, ho, hw⟩ := hp
  have hz : ∀ k : Nat, ws.getD k Ty.str.zero = ws.getD k [] := fun _ => rfl
  have hcut : ∀ x : List UInt8, Go.Lib.cut x #[(58 : UInt8)].toList = cutC 58 x := fun _ => rfl
  simp only [Tree.ok, tyd_inj, packAV, AV.same, AV.same.sameL, encV, encS, enc, inK, Nd.ok, List.headD_cons, List.cons_append, List.nil_append, List.append_nil, true_and, and_true, Bool.true_and, Bool.and_true, loop_next, weakBs_nil, weakBs_cons, weakB_self, weakB_row, weakB_int, weakL_nil, weakL_unk, weakL_guess, isRow_own, isRow_unk, weakL_int, weakL_bool, weakL_str, weakL_own, weakL_view, weakL_nilS, noRow_int, noRow_bool, own_inj, LTree.val, cond_true, cond_false, Prod.mk.injEq, List.cons.injEq, AV.int.injEq, AV.bool.injEq, AV.str.injEq, AV.agg.injEq, ann_iReadTempos_0, hz, hcut, decide_eq_true_eq, decide_eq_false_iff_not]
  refine ⟨fun ha => ?_, fun ha => ?_⟩
  · have hx := getD_mem_len hw i.toNat (by omega)
    rw [allM_at _ ws i.toNat (by omega), preM_at _ ws i.toNat (by omega), show (i + 1).toNat = i.toNat + 1 by omega]
    generalize ws.getD i.toNat [] = x at *
    have hl := cutC_len 58 x
    have hN : (cutC 58 x).2.2 = false → (cutC 58 x).2.1 = [] := fun h => by
      rcases cutC_cases 58 x with ⟨_, e⟩ | ⟨a, r, _, _, e⟩
      · rw [e]
      · rw [e] at h; simp at h
    have hD : wdI x = (if (frI (cutC 58 x).1).2 = true ∧ (readD (cutC 58 x).2.1).2 = true then some ((frI (cutC 58 x).1).1, (readD (cutC 58 x).2.1).1) else none) := rfl
    rw [hD]
    clear hD
    generalize cutC 58 x = c at *
    obtain ⟨c1, c2, c3⟩ := c
    simp only at hl hN ⊢
    generalize frI c1 = f at *
    generalize readD c2 = d at *
    obtain ⟨⟨f1, f2⟩, f3⟩ := f
    obtain ⟨d1, d2⟩ := d
    cases f3
    · simp only [Bool.false_eq_true, false_and, if_false]
      repeat' first | apply And.intro | intro _
      all_goals first | omega | exact hw | exact hw _ ‹_› | trivial | rfl | contradiction | (simp; done) | (simp [Tree.ok, tyd_inj, packAV, AV.same, AV.same.sameL, encV, encS, enc, inK, Nd.ok, List.headD_cons, List.cons_append, List.nil_append, List.append_nil, true_and, and_true, Bool.true_and, Bool.and_true, loop_next, weakBs_nil, weakBs_cons, weakB_self, weakB_row, weakB_int, weakL_nil, weakL_unk, weakL_guess, isRow_own, isRow_unk, weakL_int, weakL_bool, weakL_str, weakL_own, weakL_view, weakL_nilS, noRow_int, noRow_bool, own_inj, LTree.val, cond_true, cond_false, Prod.mk.injEq, List.cons.injEq, AV.int.injEq, AV.bool.injEq, AV.str.injEq, AV.agg.injEq]; done) | (simp_all [Tree.ok, tyd_inj, packAV, AV.same, AV.same.sameL, encV, encS, enc, inK, Nd.ok, List.headD_cons, List.cons_append, List.nil_append, List.append_nil, true_and, and_true, Bool.true_and, Bool.and_true, loop_next, weakBs_nil, weakBs_cons, weakB_self, weakB_row, weakB_int, weakL_nil, weakL_unk, weakL_guess, isRow_own, isRow_unk, weakL_int, weakL_bool, weakL_str, weakL_own, weakL_view, weakL_nilS, noRow_int, noRow_bool, own_inj, LTree.val, cond_true, cond_false, Prod.mk.injEq, List.cons.injEq, AV.int.injEq, AV.bool.injEq, AV.str.injEq, AV.agg.injEq]; done) | (simp [Tree.ok, tyd_inj, packAV, AV.same, AV.same.sameL, encV, encS, enc, inK, Nd.ok, List.headD_cons, List.cons_append, List.nil_append, List.append_nil, true_and, and_true, Bool.true_and, Bool.and_true, loop_next, weakBs_nil, weakBs_cons, weakB_self, weakB_row, weakB_int, weakL_nil, weakL_unk, weakL_guess, isRow_own, isRow_unk, weakL_int, weakL_bool, weakL_str, weakL_own, weakL_view, weakL_nilS, noRow_int, noRow_bool, own_inj, LTree.val, cond_true, cond_false, Prod.mk.injEq, List.cons.injEq, AV.int.injEq, AV.bool.injEq, AV.str.injEq, AV.agg.injEq]; omega) | (trace_state; fail)
    · cases d2
      · simp only [Bool.false_eq_true, and_false, if_false]
        repeat' first | apply And.intro | intro _
        all_goals first | omega | exact hw | exact hw _ ‹_› | trivial | rfl | contradiction | (simp; done) | (simp [Tree.ok, tyd_inj, packAV, AV.same, AV.same.sameL, encV, encS, enc, inK, Nd.ok, List.headD_cons, List.cons_append, List.nil_append, List.append_nil, true_and, and_true, Bool.true_and, Bool.and_true, loop_next, weakBs_nil, weakBs_cons, weakB_self, weakB_row, weakB_int, weakL_nil, weakL_unk, weakL_guess, isRow_own, isRow_unk, weakL_int, weakL_bool, weakL_str, weakL_own, weakL_view, weakL_nilS, noRow_int, noRow_bool, own_inj, LTree.val, cond_true, cond_false, Prod.mk.injEq, List.cons.injEq, AV.int.injEq, AV.bool.injEq, AV.str.injEq, AV.agg.injEq]; done) | (simp_all [Tree.ok, tyd_inj, packAV, AV.same, AV.same.sameL, encV, encS, enc, inK, Nd.ok, List.headD_cons, List.cons_append, List.nil_append, List.append_nil, true_and, and_true, Bool.true_and, Bool.and_true, loop_next, weakBs_nil, weakBs_cons, weakB_self, weakB_row, weakB_int, weakL_nil, weakL_unk, weakL_guess, isRow_own, isRow_unk, weakL_int, weakL_bool, weakL_str, weakL_own, weakL_view, weakL_nilS, noRow_int, noRow_bool, own_inj, LTree.val, cond_true, cond_false, Prod.mk.injEq, List.cons.injEq, AV.int.injEq, AV.bool.injEq, AV.str.injEq, AV.agg.injEq]; done) | (simp [Tree.ok, tyd_inj, packAV, AV.same, AV.same.sameL, encV, encS, enc, inK, Nd.ok, List.headD_cons, List.cons_append, List.nil_append, List.append_nil, true_and, and_true, Bool.true_and, Bool.and_true, loop_next, weakBs_nil, weakBs_cons, weakB_self, weakB_row, weakB_int, weakL_nil, weakL_unk, weakL_guess, isRow_own, isRow_unk, weakL_int, weakL_bool, weakL_str, weakL_own, weakL_view, weakL_nilS, noRow_int, noRow_bool, own_inj, LTree.val, cond_true, cond_false, Prod.mk.injEq, List.cons.injEq, AV.int.injEq, AV.bool.injEq, AV.str.injEq, AV.agg.injEq]; omega) | (trace_state; fail)
      · simp only [and_self, if_true]
        cases hr : allM wdI (ws.drop (i.toNat + 1)) with
        | some l =>
          simp only [Option.isSome_some, List.append_assoc, List.singleton_append, List.length_append, List.length_cons, List.length_nil]
          repeat' first | apply And.intro | intro _
          all_goals first | omega | exact hw | exact hw _ ‹_› | trivial | rfl | contradiction | (simp; done) | (simp [Tree.ok, tyd_inj, packAV, AV.same, AV.same.sameL, encV, encS, enc, inK, Nd.ok, List.headD_cons, List.cons_append, List.nil_append, List.append_nil, true_and, and_true, Bool.true_and, Bool.and_true, loop_next, weakBs_nil, weakBs_cons, weakB_self, weakB_row, weakB_int, weakL_nil, weakL_unk, weakL_guess, isRow_own, isRow_unk, weakL_int, weakL_bool, weakL_str, weakL_own, weakL_view, weakL_nilS, noRow_int, noRow_bool, own_inj, LTree.val, cond_true, cond_false, Prod.mk.injEq, List.cons.injEq, AV.int.injEq, AV.bool.injEq, AV.str.injEq, AV.agg.injEq]; done) | (simp_all [Tree.ok, tyd_inj, packAV, AV.same, AV.same.sameL, encV, encS, enc, inK, Nd.ok, List.headD_cons, List.cons_append, List.nil_append, List.append_nil, true_and, and_true, Bool.true_and, Bool.and_true, loop_next, weakBs_nil, weakBs_cons, weakB_self, weakB_row, weakB_int, weakL_nil, weakL_unk, weakL_guess, isRow_own, isRow_unk, weakL_int, weakL_bool, weakL_str, weakL_own, weakL_view, weakL_nilS, noRow_int, noRow_bool, own_inj, LTree.val, cond_true, cond_false, Prod.mk.injEq, List.cons.injEq, AV.int.injEq, AV.bool.injEq, AV.str.injEq, AV.agg.injEq]; done) | (simp [Tree.ok, tyd_inj, packAV, AV.same, AV.same.sameL, encV, encS, enc, inK, Nd.ok, List.headD_cons, List.cons_append, List.nil_append, List.append_nil, true_and, and_true, Bool.true_and, Bool.and_true, loop_next, weakBs_nil, weakBs_cons, weakB_self, weakB_row, weakB_int, weakL_nil, weakL_unk, weakL_guess, isRow_own, isRow_unk, weakL_int, weakL_bool, weakL_str, weakL_own, weakL_view, weakL_nilS, noRow_int, noRow_bool, own_inj, LTree.val, cond_true, cond_false, Prod.mk.injEq, List.cons.injEq, AV.int.injEq, AV.bool.injEq, AV.str.injEq, AV.agg.injEq]; omega) | (trace_state; fail)
        | none =>
          simp only [Option.isSome_none, List.append_assoc, List.singleton_append, List.length_append, List.length_cons, List.length_nil]
          repeat' first | apply And.intro | intro _
          all_goals first | omega | exact hw | exact hw _ ‹_› | trivial | rfl | contradiction | (simp; done) | (simp [Tree.ok, tyd_inj, packAV, AV.same, AV.same.sameL, encV, encS, enc, inK, Nd.ok, List.headD_cons, List.cons_append, List.nil_append, List.append_nil, true_and, and_true, Bool.true_and, Bool.and_true, loop_next, weakBs_nil, weakBs_cons, weakB_self, weakB_row, weakB_int, weakL_nil, weakL_unk, weakL_guess, isRow_own, isRow_unk, weakL_int, weakL_bool, weakL_str, weakL_own, weakL_view, weakL_nilS, noRow_int, noRow_bool, own_inj, LTree.val, cond_true, cond_false, Prod.mk.injEq, List.cons.injEq, AV.int.injEq, AV.bool.injEq, AV.str.injEq, AV.agg.injEq]; done) | (simp_all [Tree.ok, tyd_inj, packAV, AV.same, AV.same.sameL, encV, encS, enc, inK, Nd.ok, List.headD_cons, List.cons_append, List.nil_append, List.append_nil, true_and, and_true, Bool.true_and, Bool.and_true, loop_next, weakBs_nil, weakBs_cons, weakB_self, weakB_row, weakB_int, weakL_nil, weakL_unk, weakL_guess, isRow_own, isRow_unk, weakL_int, weakL_bool, weakL_str, weakL_own, weakL_view, weakL_nilS, noRow_int, noRow_bool, own_inj, LTree.val, cond_true, cond_false, Prod.mk.injEq, List.cons.injEq, AV.int.injEq, AV.bool.injEq, AV.str.injEq, AV.agg.injEq]; done) | (simp [Tree.ok, tyd_inj, packAV, AV.same, AV.same.sameL, encV, encS, enc, inK, Nd.ok, List.headD_cons, List.cons_append, List.nil_append, List.append_nil, true_and, and_true, Bool.true_and, Bool.and_true, loop_next, weakBs_nil, weakBs_cons, weakB_self, weakB_row, weakB_int, weakL_nil, weakL_unk, weakL_guess, isRow_own, isRow_unk, weakL_int, weakL_bool, weakL_str, weakL_own, weakL_view, weakL_nilS, noRow_int, noRow_bool, own_inj, LTree.val, cond_true, cond_false, Prod.mk.injEq, List.cons.injEq, AV.int.injEq, AV.bool.injEq, AV.str.injEq, AV.agg.injEq]; omega) | (trace_state; fail)
  · rw [List.drop_eq_nil_of_le (by omega)]
    simp [Tree.ok, tyd_inj, packAV, AV.same, AV.same.sameL, encV, encS, enc, inK, Nd.ok, List.headD_cons, List.cons_append, List.nil_append, List.append_nil, true_and, and_true, Bool.true_and, Bool.and_true, loop_next, weakBs_nil, weakBs_cons, weakB_self, weakB_row, weakB_int, weakL_nil, weakL_unk, weakL_guess, isRow_own, isRow_unk, weakL_int, weakL_bool, weakL_str, weakL_own, weakL_view, weakL_nilS, noRow_int, noRow_bool, own_inj, LTree.val, cond_true, cond_false, Prod.mk.injEq, List.cons.injEq, AV.int.injEq, AV.bool.injEq, AV.str.injEq, AV.agg.injEq, allM, preM]
theorem loops_iReadTempos : ∀ c, Tryz.f8.body = some c → LoopsOk Tryz.prog (addL (firstId (loopAt Tryz.f8 0)) ann_iReadTempos_0 noL) Tryz.f8.ntmps c := loopsN fun i hi ann h => by
  have hn : loopN Tryz.f8 = 1 := by kernel_rfl
  rw [hn] at hi
  exact match i, hi, h with
    | 0, _, h => (Option.some.inj ((show (addL (firstId (loopAt Tryz.f8 0)) ann_iReadTempos_0 noL) (firstId (loopAt Tryz.f8 0)) = some ann_iReadTempos_0 from by kernel_rfl).symm.trans h)) ▸ loop_iReadTempos_0
set_option maxHeartbeats 1000000 in
theorem sat_iReadTempos : Sat Tryz.prog 8 ct_iReadTempos := by
  refine sat_typed (C := C_Rt_1) (L := (addL (firstId (loopAt Tryz.f8 0)) ann_iReadTempos_0 noL)) (wr := false) mixedOk Tryz.func8 C_Rt_1_ok (loops_iReadTempos) (fun _ => by first | rfl | (simp [ownsOf, ownsOf.ownsL, enc, encV, encS])) fun x hp => ?_
  obtain ⟨(s : List UInt8), _⟩ := x
  replace hp : s.length ≤ 1048576 := hp
  have htree : exFunc Tryz.prog C_Rt_1 false (addL (firstId (loopAt Tryz.f8 0)) ann_iReadTempos_0 noL) Tryz.f8 (encA [.v .str] (s, ())) = .need (s.length ≤ (2000000 : Nat)) (.need ((↑(wordsF s).length : Int) = (↑(wordsF s).length : Int) ∧ ((0 : Int) ≤ (0 : Int) ∧ (0 : Int) ≤ (↑(wordsF s).length : Int)) ∧ (↑(wordsF s).length : Int) ≤ (2000000 : Int) ∧ (↑(0 : Nat) : Int) ≤ (0 : Int) ∧ ∀ (w : Ty.str.den), w ∈ wordsF s → List.length w ≤ (2000000 : Nat)) (.ite ((allM wdI (List.drop (Int.toNat (0 : Int)) (wordsF s))).isSome) (.need ((↑([] ++ preM wdI (List.drop (Int.toNat (0 : Int)) (wordsF s))).length : Int) ≤ (9223372036854775807 : Int)) (.ite (!tmapF ([] ++ preM wdI (List.drop (Int.toNat (0 : Int)) (wordsF s)))) (.leaf [.agg [.nilS], .lit false]) (.need ((↑([] ++ preM wdI (List.drop (Int.toNat (0 : Int)) (wordsF s))).length : Int) ≤ (9223372036854775807 : Int)) (.ite (!decide ((if tmapF ([] ++ preM wdI (List.drop (Int.toNat (0 : Int)) (wordsF s))) = true then tempoT ([] ++ preM wdI (List.drop (Int.toNat (0 : Int)) (wordsF s))) else []) = s)) (.leaf [.agg [.nilS], .lit false]) (.leaf [.agg [.own (tFrac.pair I64) ([] ++ preM wdI (List.drop (Int.toNat (0 : Int)) (wordsF s)))], .lit true]))))) (.leaf [.agg [.nilS], .bool (false)]))) := by kernel_rfl
  refine (congrArg (Tree.ok _) htree).mpr ?_
  clear htree
  have hp : s.length ≤ 1048576 := hp
  have hV : tmI s = tmOf s (allM wdI (wordsF s)) := rfl
  have hl := wordsF_len s
  have hw : ∀ w ∈ wordsF s, w.length ≤ 2000000 := fun w h => Nat.le_trans (words_len w h) (by omega)
  have hP := preM_all (f := wdI) (wordsF s)
  simp only [Tree.ok, tyd_inj, packAV, AV.same, AV.same.sameL, encV, encS, enc, inK, Nd.ok, List.headD_cons, List.cons_append, List.nil_append, List.append_nil, true_and, and_true, Bool.true_and, Bool.and_true, hV, Int.toNat_zero, List.drop_zero, List.nil_append]
  clear hV
  generalize hA : allM wdI (wordsF s) = A at *
  cases A with
  | none =>
    simp only [Option.isSome_none, tmOf]
    repeat' first | apply And.intro | intro _
    all_goals first | omega | exact hw _ ‹_› | trivial | rfl | contradiction | (simp [Tree.ok, tyd_inj, packAV, AV.same, AV.same.sameL, encV, encS, enc, inK, Nd.ok, List.headD_cons, List.cons_append, List.nil_append, List.append_nil, true_and, and_true, Bool.true_and, Bool.and_true]; done) | (simp_all [Tree.ok, tyd_inj, packAV, AV.same, AV.same.sameL, encV, encS, enc, inK, Nd.ok, List.headD_cons, List.cons_append, List.nil_append, List.append_nil, true_and, and_true, Bool.true_and, Bool.and_true]; done) | (trace_state; fail)
  | some l =>
    have hll := allM_len _ _ hA
    rw [hP l rfl]
    simp only [Option.isSome_some, tmOf]
    cases hk : tmapF l
    · simp only [Bool.false_eq_true, false_and, if_false]
      repeat' first | apply And.intro | intro _
      all_goals first | omega | exact hw _ ‹_› | trivial | rfl | contradiction | (simp [Tree.ok, tyd_inj, packAV, AV.same, AV.same.sameL, encV, encS, enc, inK, Nd.ok, List.headD_cons, List.cons_append, List.nil_append, List.append_nil, true_and, and_true, Bool.true_and, Bool.and_true]; done) | (simp_all [Tree.ok, tyd_inj, packAV, AV.same, AV.same.sameL, encV, encS, enc, inK, Nd.ok, List.headD_cons, List.cons_append, List.nil_append, List.append_nil, true_and, and_true, Bool.true_and, Bool.and_true]; done) | (trace_state; fail)
    · simp only [true_and, if_true]
      by_cases ht : tempoT l = s
      · simp only [ht, if_true, decide_true, Bool.not_true, Bool.false_eq_true, false_implies, true_implies]
        repeat' first | apply And.intro | intro _
        all_goals first | omega | exact hw _ ‹_› | trivial | rfl | contradiction | (simp [Tree.ok, tyd_inj, packAV, AV.same, AV.same.sameL, encV, encS, enc, inK, Nd.ok, List.headD_cons, List.cons_append, List.nil_append, List.append_nil, true_and, and_true, Bool.true_and, Bool.and_true]; done) | (simp_all [Tree.ok, tyd_inj, packAV, AV.same, AV.same.sameL, encV, encS, enc, inK, Nd.ok, List.headD_cons, List.cons_append, List.nil_append, List.append_nil, true_and, and_true, Bool.true_and, Bool.and_true]; done) | (trace_state; fail)
      · simp only [ht, if_false, decide_false, Bool.not_false, true_implies, Bool.true_eq_false, false_implies]
        repeat' first | apply And.intro | intro _
        all_goals first | omega | exact hw _ ‹_› | trivial | rfl | contradiction | (simp [Tree.ok, tyd_inj, packAV, AV.same, AV.same.sameL, encV, encS, enc, inK, Nd.ok, List.headD_cons, List.cons_append, List.nil_append, List.append_nil, true_and, and_true, Bool.true_and, Bool.and_true]; done) | (simp_all [Tree.ok, tyd_inj, packAV, AV.same, AV.same.sameL, encV, encS, enc, inK, Nd.ok, List.headD_cons, List.cons_append, List.nil_append, List.append_nil, true_and, and_true, Bool.true_and, Bool.and_true]; done) | (trace_state; fail)
def C_Rt_2 : FuncId → Option Ct := addC 8 ct_iReadTempos C_Rt_1
theorem C_Rt_2_ok : COk Tryz.prog C_Rt_2 := addC_ok C_Rt_1_ok sat_iReadTempos
def ann_sReadTempos_0 : LAnn := { sameS := [0, 2, 4, 5], modS := [3, 6], sameH := [15], modH := [2, 5], base := 900000, nilE := [], nilB := [⟨5, 0, 800000, tTempo⟩], G := fun
  | ⟨[.str s, .ptr 2 0, .row 15, .ptr 5 0], [.row .str ws], [.bool r, .int .i64 i], [[.nilS], [.own (.pair (.pair (.int .i64) (.int .i64)) (.int .i64)) out]]⟩ => some (.p ((0 ≤ i ∧ i ≤ (ws.length : Int)) ∧ ws.length ≤ 8 ∧ (out.length : Int) ≤ i ∧ (∀ w ∈ ws, w.length ≤ 2000000)), .ite (allM wdS (ws.drop i.toNat)).isSome (.leaf (.exit 0) [.bool r, .unk] [[.nilS], [.own tTempo (out ++ preM wdS (ws.drop i.toNat))]]) (.leaf .ret [.bool false, .unk] [[.nilS], [.own tTempo (out ++ preM wdS (ws.drop i.toNat))]]))
  | _ => none }
def ct_sReadTempos : Ct := ctOf [.v .str] (fun ((s : List UInt8), _) => .p (s.length ≤ 1048576)) (fun ((s : List UInt8), _) => .tup [.agg [.own tTempo (tmI s).1], .bool (tmI s).2])
set_option maxHeartbeats 1000000 in
theorem loop_sReadTempos_0 : LoopSat Tryz.prog Tryz.f7.ntmps (loopAt Tryz.f7 0) ann_sReadTempos_0 := by
  refine loopSat_of (C := C_Rt_2) (L := (addL (firstId (loopAt Tryz.f7 0)) ann_sReadTempos_0 noL)) (wr := false) mixedOk C_Rt_2_ok (loopsIn0 (by kernel_rfl)) (fun d => match d.blk, d.vals with | [.row _ xs], [_, .int _ i] => ((xs.length : Int) - i).toNat | _, _ => 0) fun d p t hG hp => ?_
  simp only [ann_sReadTempos_0] at hG
  split at hG
  rotate_left
  · simp at hG
  rename_i s ws r i out
  simp only [Option.some.injEq, Prod.mk.injEq] at hG
  obtain ⟨rfl, rfl⟩ := hG
  have htree : exRound Tryz.prog C_Rt_2 false (addL (firstId (loopAt Tryz.f7 0)) ann_sReadTempos_0 noL) Tryz.f7.ntmps ann_sReadTempos_0 (loopAt Tryz.f7 0) ⟨[.str s, .ptr 2 0, .row 15, .ptr 5 0], [.row .str ws], [.bool r, .int .i64 i], [[.nilS], [.own tTempo out]]⟩ = .ite (decide (i < (↑ws.length : Int))) (.need ((0 : Int) ≤ i ∧ i < (↑ws.length : Int)) (.need (i.toNat < ws.length) (.need (List.length (ws.getD i.toNat Ty.str.zero) ≤ (2000000 : Nat)) (.need ((if (cutC (58 : UInt8) (ws.getD i.toNat Ty.str.zero)).snd.snd = true then (cutC (58 : UInt8) (ws.getD i.toNat Ty.str.zero)).fst else []).length ≤ (2000000 : Nat)) (.ite (!(cutC (58 : UInt8) (ws.getD i.toNat Ty.str.zero)).snd.snd) (.leaf (.ret, ⟨[.str (s), .ptr 2 0, .row 15, .ptr 5 0], [.row (Ty.str) (ws)], [.bool (false), .int .i64 (i)], [[.nilS], [.own (tFrac.pair I64) (out)]]⟩)) (.ite (!(frI (if (cutC (58 : UInt8) (ws.getD i.toNat Ty.str.zero)).snd.snd = true then (cutC (58 : UInt8) (ws.getD i.toNat Ty.str.zero)).fst else [])).snd) (.leaf (.ret, ⟨[.str (s), .ptr 2 0, .row 15, .ptr 5 0], [.row (Ty.str) (ws)], [.bool (false), .int .i64 (i)], [[.nilS], [.own (tFrac.pair I64) (out)]]⟩)) (.ite (!(intF (cutC (58 : UInt8) (ws.getD i.toNat Ty.str.zero)).snd.fst).snd) (.leaf (.ret, ⟨[.str (s), .ptr 2 0, .row 15, .ptr 5 0], [.row (Ty.str) (ws)], [.bool (false), .int .i64 (i)], [[.nilS], [.own (tFrac.pair I64) (out)]]⟩)) (.need (out.length + [(((frI (if (cutC (58 : UInt8) (ws.getD i.toNat Ty.str.zero)).snd.snd = true then (cutC (58 : UInt8) (ws.getD i.toNat Ty.str.zero)).fst else [])).fst.fst, (frI (if (cutC (58 : UInt8) (ws.getD i.toNat Ty.str.zero)).snd.snd = true then (cutC (58 : UInt8) (ws.getD i.toNat Ty.str.zero)).fst else [])).fst.snd), (intF (cutC (58 : UInt8) (ws.getD i.toNat Ty.str.zero)).snd.fst).fst)].length ≤ (16777216 : Nat)) (.need (inK IntKind.i64 (i + (1 : Int))) (.leaf (.normal, ⟨[.str (s), .ptr 2 0, .row 15, .ptr 5 0], [.row (Ty.str) (ws)], [.bool (r), .int .i64 (i + (1 : Int))], [[.nilS], [.own (tFrac.pair I64) (out ++ [(((frI (if (cutC (58 : UInt8) (ws.getD i.toNat Ty.str.zero)).snd.snd = true then (cutC (58 : UInt8) (ws.getD i.toNat Ty.str.zero)).fst else [])).fst.fst, (frI (if (cutC (58 : UInt8) (ws.getD i.toNat Ty.str.zero)).snd.snd = true then (cutC (58 : UInt8) (ws.getD i.toNat Ty.str.zero)).fst else [])).fst.snd), (intF (cutC (58 : UInt8) (ws.getD i.toNat Ty.str.zero)).snd.fst).fst)])]]⟩))))))))))) (.leaf ((.exit 0), ⟨[.str (s), .ptr 2 0, .row 15, .ptr 5 0], [.row (Ty.str) (ws)], [.bool (r), .int .i64 (i)], [[.nilS], [.own (tFrac.pair I64) (out)]]⟩)) := by kernel_rfl
  rw [htree]
  clear htree
  replace hp : (0 ≤ i ∧ i ≤ (ws.length : Int)) ∧ ws.length ≤ 8 ∧ (out.length : Int) ≤ i ∧ (∀ w ∈ ws, w.length ≤ 2000000) := hp
  obtain ⟨hi, hn, ho, hw⟩ := hp
  have hz : ∀ k : Nat, ws.getD k Ty.str.zero = ws.getD k [] := fun _ => rfl
  have hcut : ∀ x : List UInt8, Go.Lib.cut x #[(58 : UInt8)].toList = cutC 58 x := fun _ => rfl
  simp only [Tree.ok, tyd_inj, packAV, AV.same, AV.same.sameL, encV, encS, enc, inK, Nd.ok, List.headD_cons, List.cons_append, List.nil_append, List.append_nil, true_and, and_true, Bool.true_and, Bool.and_true, loop_next, weakBs_nil, weakBs_cons, weakB_self, weakB_row, weakB_int, weakL_nil, weakL_unk, weakL_guess, isRow_own, isRow_unk, weakL_int, weakL_bool, weakL_str, weakL_own, weakL_view, weakL_nilS, noRow_int, noRow_bool, own_inj, LTree.val, cond_true, cond_false, Prod.mk.injEq, List.cons.injEq, AV.int.injEq, AV.bool.injEq, AV.str.injEq, AV.agg.injEq, ann_sReadTempos_0, hz, hcut, decide_eq_true_eq, decide_eq_false_iff_not]
  refine ⟨fun ha => ?_, fun ha => ?_⟩
  · have hx := getD_mem_len hw i.toNat (by omega)
    rw [allM_at _ ws i.toNat (by omega), preM_at _ ws i.toNat (by omega), show (i + 1).toNat = i.toNat + 1 by omega]
    generalize ws.getD i.toNat [] = x at *
    have hl := cutC_len 58 x
    have hN : (cutC 58 x).2.2 = false → (cutC 58 x).2.1 = [] := fun h => by
      rcases cutC_cases 58 x with ⟨_, e⟩ | ⟨a, r, _, _, e⟩
      · rw [e]
      · rw [e] at h; simp at h
    have hD : wdS x = (if (cutC 58 x).2.2 = true ∧ (frI (cutC 58 x).1).2 = true ∧ (intF (cutC 58 x).2.1).2 = true then some ((frI (cutC 58 x).1).1, (intF (cutC 58 x).2.1).1) else none) := rfl
    rw [hD]
    clear hD
    generalize cutC 58 x = c at *
    obtain ⟨c1, c2, c3⟩ := c
    simp only at hl hN ⊢
    cases c3
    · simp only [Bool.false_eq_true, false_and, if_false]
      repeat' first | apply And.intro | intro _
      all_goals first | omega | exact hw | exact hw _ ‹_› | trivial | rfl | contradiction | (simp; done) | (simp [Tree.ok, tyd_inj, packAV, AV.same, AV.same.sameL, encV, encS, enc, inK, Nd.ok, List.headD_cons, List.cons_append, List.nil_append, List.append_nil, true_and, and_true, Bool.true_and, Bool.and_true, loop_next, weakBs_nil, weakBs_cons, weakB_self, weakB_row, weakB_int, weakL_nil, weakL_unk, weakL_guess, isRow_own, isRow_unk, weakL_int, weakL_bool, weakL_str, weakL_own, weakL_view, weakL_nilS, noRow_int, noRow_bool, own_inj, LTree.val, cond_true, cond_false, Prod.mk.injEq, List.cons.injEq, AV.int.injEq, AV.bool.injEq, AV.str.injEq, AV.agg.injEq]; done) | (simp_all [Tree.ok, tyd_inj, packAV, AV.same, AV.same.sameL, encV, encS, enc, inK, Nd.ok, List.headD_cons, List.cons_append, List.nil_append, List.append_nil, true_and, and_true, Bool.true_and, Bool.and_true, loop_next, weakBs_nil, weakBs_cons, weakB_self, weakB_row, weakB_int, weakL_nil, weakL_unk, weakL_guess, isRow_own, isRow_unk, weakL_int, weakL_bool, weakL_str, weakL_own, weakL_view, weakL_nilS, noRow_int, noRow_bool, own_inj, LTree.val, cond_true, cond_false, Prod.mk.injEq, List.cons.injEq, AV.int.injEq, AV.bool.injEq, AV.str.injEq, AV.agg.injEq]; done) | (simp [Tree.ok, tyd_inj, packAV, AV.same, AV.same.sameL, encV, encS, enc, inK, Nd.ok, List.headD_cons, List.cons_append, List.nil_append, List.append_nil, true_and, and_true, Bool.true_and, Bool.and_true, loop_next, weakBs_nil, weakBs_cons, weakB_self, weakB_row, weakB_int, weakL_nil, weakL_unk, weakL_guess, isRow_own, isRow_unk, weakL_int, weakL_bool, weakL_str, weakL_own, weakL_view, weakL_nilS, noRow_int, noRow_bool, own_inj, LTree.val, cond_true, cond_false, Prod.mk.injEq, List.cons.injEq, AV.int.injEq, AV.bool.injEq, AV.str.injEq, AV.agg.injEq]; omega) | (trace_state; fail)
    · simp only [if_true, true_and]
      generalize frI c1 = f at *
      generalize intF c2 = d at *
      obtain ⟨⟨f1, f2⟩, f3⟩ := f
      obtain ⟨d1, d2⟩ := d
      cases f3
      · simp only [Bool.false_eq_true, false_and, if_false]
        repeat' first | apply And.intro | intro _
        all_goals first | omega | exact hw | exact hw _ ‹_› | trivial | rfl | contradiction | (simp; done) | (simp [Tree.ok, tyd_inj, packAV, AV.same, AV.same.sameL, encV, encS, enc, inK, Nd.ok, List.headD_cons, List.cons_append, List.nil_append, List.append_nil, true_and, and_true, Bool.true_and, Bool.and_true, loop_next, weakBs_nil, weakBs_cons, weakB_self, weakB_row, weakB_int, weakL_nil, weakL_unk, weakL_guess, isRow_own, isRow_unk, weakL_int, weakL_bool, weakL_str, weakL_own, weakL_view, weakL_nilS, noRow_int, noRow_bool, own_inj, LTree.val, cond_true, cond_false, Prod.mk.injEq, List.cons.injEq, AV.int.injEq, AV.bool.injEq, AV.str.injEq, AV.agg.injEq]; done) | (simp_all [Tree.ok, tyd_inj, packAV, AV.same, AV.same.sameL, encV, encS, enc, inK, Nd.ok, List.headD_cons, List.cons_append, List.nil_append, List.append_nil, true_and, and_true, Bool.true_and, Bool.and_true, loop_next, weakBs_nil, weakBs_cons, weakB_self, weakB_row, weakB_int, weakL_nil, weakL_unk, weakL_guess, isRow_own, isRow_unk, weakL_int, weakL_bool, weakL_str, weakL_own, weakL_view, weakL_nilS, noRow_int, noRow_bool, own_inj, LTree.val, cond_true, cond_false, Prod.mk.injEq, List.cons.injEq, AV.int.injEq, AV.bool.injEq, AV.str.injEq, AV.agg.injEq]; done) | (simp [Tree.ok, tyd_inj, packAV, AV.same, AV.same.sameL, encV, encS, enc, inK, Nd.ok, List.headD_cons, List.cons_append, List.nil_append, List.append_nil, true_and, and_true, Bool.true_and, Bool.and_true, loop_next, weakBs_nil, weakBs_cons, weakB_self, weakB_row, weakB_int, weakL_nil, weakL_unk, weakL_guess, isRow_own, isRow_unk, weakL_int, weakL_bool, weakL_str, weakL_own, weakL_view, weakL_nilS, noRow_int, noRow_bool, own_inj, LTree.val, cond_true, cond_false, Prod.mk.injEq, List.cons.injEq, AV.int.injEq, AV.bool.injEq, AV.str.injEq, AV.agg.injEq]; omega) | (trace_state; fail)
      · cases d2
        · simp only [Bool.false_eq_true, and_false, if_false]
          repeat' first | apply And.intro | intro _
          all_goals first | omega | exact hw | exact hw _ ‹_› | trivial | rfl | contradiction | (simp; done) | (simp [Tree.ok, tyd_inj, packAV, AV.same, AV.same.sameL, encV, encS, enc, inK, Nd.ok, List.headD_cons, List.cons_append, List.nil_append, List.append_nil, true_and, and_true, Bool.true_and, Bool.and_true, loop_next, weakBs_nil, weakBs_cons, weakB_self, weakB_row, weakB_int, weakL_nil, weakL_unk, weakL_guess, isRow_own, isRow_unk, weakL_int, weakL_bool, weakL_str, weakL_own, weakL_view, weakL_nilS, noRow_int, noRow_bool, own_inj, LTree.val, cond_true, cond_false, Prod.mk.injEq, List.cons.injEq, AV.int.injEq, AV.bool.injEq, AV.str.injEq, AV.agg.injEq]; done) | (simp_all [Tree.ok, tyd_inj, packAV, AV.same, AV.same.sameL, encV, encS, enc, inK, Nd.ok, List.headD_cons, List.cons_append, List.nil_append, List.append_nil, true_and, and_true, Bool.true_and, Bool.and_true, loop_next, weakBs_nil, weakBs_cons, weakB_self, weakB_row, weakB_int, weakL_nil, weakL_unk, weakL_guess, isRow_own, isRow_unk, weakL_int, weakL_bool, weakL_str, weakL_own, weakL_view, weakL_nilS, noRow_int, noRow_bool, own_inj, LTree.val, cond_true, cond_false, Prod.mk.injEq, List.cons.injEq, AV.int.injEq, AV.bool.injEq, AV.str.injEq, AV.agg.injEq]; done) | (simp [Tree.ok, tyd_inj, packAV, AV.same, AV.same.sameL, encV, encS, enc, inK, Nd.ok, List.headD_cons, List.cons_append, List.nil_append, List.append_nil, true_and, and_true, Bool.true_and, Bool.and_true, loop_next, weakBs_nil, weakBs_cons, weakB_self, weakB_row, weakB_int, weakL_nil, weakL_unk, weakL_guess, isRow_own, isRow_unk, weakL_int, weakL_bool, weakL_str, weakL_own, weakL_view, weakL_nilS, noRow_int, noRow_bool, own_inj, LTree.val, cond_true, cond_false, Prod.mk.injEq, List.cons.injEq, AV.int.injEq, AV.bool.injEq, AV.str.injEq, AV.agg.injEq]; omega) | (trace_state; fail)
        · simp only [and_self, if_true]
          cases hr : allM wdS (ws.drop (i.toNat + 1)) with
          | some l =>
            simp only [Option.isSome_some, List.append_assoc, List.singleton_append, List.length_append, List.length_cons, List.length_nil]
            repeat' first | apply And.intro | intro _
            all_goals first | omega | exact hw | exact hw _ ‹_› | trivial | rfl | contradiction | (simp; done) | (simp [Tree.ok, tyd_inj, packAV, AV.same, AV.same.sameL, encV, encS, enc, inK, Nd.ok, List.headD_cons, List.cons_append, List.nil_append, List.append_nil, true_and, and_true, Bool.true_and, Bool.and_true, loop_next, weakBs_nil, weakBs_cons, weakB_self, weakB_row, weakB_int, weakL_nil, weakL_unk, weakL_guess, isRow_own, isRow_unk, weakL_int, weakL_bool, weakL_str, weakL_own, weakL_view, weakL_nilS, noRow_int, noRow_bool, own_inj, LTree.val, cond_true, cond_false, Prod.mk.injEq, List.cons.injEq, AV.int.injEq, AV.bool.injEq, AV.str.injEq, AV.agg.injEq]; done) | (simp_all [Tree.ok, tyd_inj, packAV, AV.same, AV.same.sameL, encV, encS, enc, inK, Nd.ok, List.headD_cons, List.cons_append, List.nil_append, List.append_nil, true_and, and_true, Bool.true_and, Bool.and_true, loop_next, weakBs_nil, weakBs_cons, weakB_self, weakB_row, weakB_int, weakL_nil, weakL_unk, weakL_guess, isRow_own, isRow_unk, weakL_int, weakL_bool, weakL_str, weakL_own, weakL_view, weakL_nilS, noRow_int, noRow_bool, own_inj, LTree.val, cond_true, cond_false, Prod.mk.injEq, List.cons.injEq, AV.int.injEq, AV.bool.injEq, AV.str.injEq, AV.agg.injEq]; done) | (simp [Tree.ok, tyd_inj, packAV, AV.same, AV.same.sameL, encV, encS, enc, inK, Nd.ok, List.headD_cons, List.cons_append, List.nil_append, List.append_nil, true_and, and_true, Bool.true_and, Bool.and_true, loop_next, weakBs_nil, weakBs_cons, weakB_self, weakB_row, weakB_int, weakL_nil, weakL_unk, weakL_guess, isRow_own, isRow_unk, weakL_int, weakL_bool, weakL_str, weakL_own, weakL_view, weakL_nilS, noRow_int, noRow_bool, own_inj, LTree.val, cond_true, cond_false, Prod.mk.injEq, List.cons.injEq, AV.int.injEq, AV.bool.injEq, AV.str.injEq, AV.agg.injEq]; omega) | (trace_state; fail)
          | none =>
            simp only [Option.isSome_none, List.append_assoc, List.singleton_append, List.length_append, List.length_cons, List.length_nil]
            repeat' first | apply And.intro | intro _
            all_goals first | omega | exact hw | exact hw _ ‹_› | trivial | rfl | contradiction | (simp; done) | (simp [Tree.ok, tyd_inj, packAV, AV.same, AV.same.sameL, encV, encS, enc, inK, Nd.ok, List.headD_cons, List.cons_append, List.nil_append, List.append_nil, true_and, and_true, Bool.true_and, Bool.and_true, loop_next, weakBs_nil, weakBs_cons, weakB_self, weakB_row, weakB_int, weakL_nil, weakL_unk, weakL_guess, isRow_own, isRow_unk, weakL_int, weakL_bool, weakL_str, weakL_own, weakL_view, weakL_nilS, noRow_int, noRow_bool, own_inj, LTree.val, cond_true, cond_false, Prod.mk.injEq, List.cons.injEq, AV.int.injEq, AV.bool.injEq, AV.str.injEq, AV.agg.injEq]; done) | (simp_all [Tree.ok, tyd_inj, packAV, AV.same, AV.same.sameL, encV, encS, enc, inK, Nd.ok, List.headD_cons, List.cons_append, List.nil_append, List.append_nil, true_and, and_true, Bool.true_and, Bool.and_true, loop_next, weakBs_nil, weakBs_cons, weakB_self, weakB_row, weakB_int, weakL_nil, weakL_unk, weakL_guess, isRow_own, isRow_unk, weakL_int, weakL_bool, weakL_str, weakL_own, weakL_view, weakL_nilS, noRow_int, noRow_bool, own_inj, LTree.val, cond_true, cond_false, Prod.mk.injEq, List.cons.injEq, AV.int.injEq, AV.bool.injEq, AV.str.injEq, AV.agg.injEq]; done) | (simp [Tree.ok, tyd_inj, packAV, AV.same, AV.same.sameL, encV, encS, enc, inK, Nd.ok, List.headD_cons, List.cons_append, List.nil_append, List.append_nil, true_and, and_true, Bool.true_and, Bool.and_true, loop_next, weakBs_nil, weakBs_cons, weakB_self, weakB_row, weakB_int, weakL_nil, weakL_unk, weakL_guess, isRow_own, isRow_unk, weakL_int, weakL_bool, weakL_str, weakL_own, weakL_view, weakL_nilS, noRow_int, noRow_bool, own_inj, LTree.val, cond_true, cond_false, Prod.mk.injEq, List.cons.injEq, AV.int.injEq, AV.bool.injEq, AV.str.injEq, AV.agg.injEq]; omega) | (trace_state; fail)
  · rw [List.drop_eq_nil_of_le (by omega)]
    simp [Tree.ok, tyd_inj, packAV, AV.same, AV.same.sameL, encV, encS, enc, inK, Nd.ok, List.headD_cons, List.cons_append, List.nil_append, List.append_nil, true_and, and_true, Bool.true_and, Bool.and_true, loop_next, weakBs_nil, weakBs_cons, weakB_self, weakB_row, weakB_int, weakL_nil, weakL_unk, weakL_guess, isRow_own, isRow_unk, weakL_int, weakL_bool, weakL_str, weakL_own, weakL_view, weakL_nilS, noRow_int, noRow_bool, own_inj, LTree.val, cond_true, cond_false, Prod.mk.injEq, List.cons.injEq, AV.int.injEq, AV.bool.injEq, AV.str.injEq, AV.agg.injEq, allM, preM]
theorem loops_sReadTempos : ∀ c, Tryz.f7.body = some c → LoopsOk Tryz.prog (addL (firstId (loopAt Tryz.f7 0)) ann_sReadTempos_0 noL) Tryz.f7.ntmps c := loopsN fun i hi ann h => by
  have hn : loopN Tryz.f7 = 1 := by kernel_rfl
  rw [hn] at hi
  exact match i, hi, h with
    | 0, _, h => (Option.some.inj ((show (addL (firstId (loopAt Tryz.f7 0)) ann_sReadTempos_0 noL) (firstId (loopAt Tryz.f7 0)) = some ann_sReadTempos_0 from by kernel_rfl).symm.trans h)) ▸ loop_sReadTempos_0
set_option maxHeartbeats 1000000 in
theorem sat_sReadTempos : Sat Tryz.prog 7 ct_sReadTempos := by
  refine sat_typed (C := C_Rt_2) (L := (addL (firstId (loopAt Tryz.f7 0)) ann_sReadTempos_0 noL)) (wr := false) mixedOk Tryz.func7 C_Rt_2_ok (loops_sReadTempos) (fun _ => by first | rfl | (simp [ownsOf, ownsOf.ownsL, enc, encV, encS])) fun x hp => ?_
  obtain ⟨(s : List UInt8), _⟩ := x
  replace hp : s.length ≤ 1048576 := hp
  have htree : exFunc Tryz.prog C_Rt_2 false (addL (firstId (loopAt Tryz.f7 0)) ann_sReadTempos_0 noL) Tryz.f7 (encA [.v .str] (s, ())) = .need (s.length ≤ (2000000 : Nat) ∧ (0 : Int) ≤ (32 : Int) ∧ (32 : Int) ≤ (255 : Int)) (.ite (decide ((8 : Int) < (↑(splitC (UInt8.ofNat (Int.toNat (32 : Int))) s).length : Int))) (.leaf [.agg [.nilS], .lit false]) (.need (((0 : Int) ≤ (0 : Int) ∧ (0 : Int) ≤ (↑(splitC (UInt8.ofNat (Int.toNat (32 : Int))) s).length : Int)) ∧ (splitC (UInt8.ofNat (Int.toNat (32 : Int))) s).length ≤ (8 : Nat) ∧ (↑(0 : Nat) : Int) ≤ (0 : Int) ∧ ∀ (w : Ty.str.den), w ∈ splitC (UInt8.ofNat (Int.toNat (32 : Int))) s → List.length w ≤ (2000000 : Nat)) (.ite ((allM wdS (List.drop (Int.toNat (0 : Int)) (splitC (UInt8.ofNat (Int.toNat (32 : Int))) s))).isSome) (.need ((↑([] ++ preM wdS (List.drop (Int.toNat (0 : Int)) (splitC (UInt8.ofNat (Int.toNat (32 : Int))) s))).length : Int) ≤ (9223372036854775807 : Int)) (.ite (!decide ((if tmapF ([] ++ preM wdS (List.drop (Int.toNat (0 : Int)) (splitC (UInt8.ofNat (Int.toNat (32 : Int))) s))) = true then tempoT ([] ++ preM wdS (List.drop (Int.toNat (0 : Int)) (splitC (UInt8.ofNat (Int.toNat (32 : Int))) s))) else []) = s)) (.leaf [.agg [.nilS], .lit false]) (.ite (decide (s = ([] : List UInt8))) (.leaf [.agg [.nilS], .lit false]) (.leaf [.agg [.own (tFrac.pair I64) ([] ++ preM wdS (List.drop (Int.toNat (0 : Int)) (splitC (UInt8.ofNat (Int.toNat (32 : Int))) s)))], .lit true])))) (.leaf [.agg [.nilS], .bool (false)])))) := by kernel_rfl
  refine (congrArg (Tree.ok _) htree).mpr ?_
  clear htree
  have hp : s.length ≤ 1048576 := hp
  have hV := tm_eq s
  have hW : tmS s = if (splitC 32 s).length ≤ 8 then tmOf s (allM wdS (splitC 32 s)) else ([], false) := rfl
  have hl := splitC_len 32 s
  have hw : ∀ w ∈ splitC 32 s, w.length ≤ 2000000 := fun w h => Nat.le_trans (splitC_mem_len 32 s w h) (by omega)
  have hP := preM_all (f := wdS) (splitC 32 s)
  have e32 : UInt8.ofNat (Int.toNat 32) = 32 := rfl
  have h0 : s = [] → splitC 32 s = [[]] := fun h => by rw [h]; rfl
  have h00 : allM wdS [[]] = none := by
    have : wdS [] = none := by
      unfold wdS
      rw [show cutC 58 [] = ([], [], false) from cutC_miss _ (by simp)]
      rfl
    rw [allM, this]
  simp only [Tree.ok, tyd_inj, packAV, AV.same, AV.same.sameL, encV, encS, enc, inK, Nd.ok, List.headD_cons, List.cons_append, List.nil_append, List.append_nil, true_and, and_true, Bool.true_and, Bool.and_true, ← hV, hW, e32, Int.toNat_zero, List.drop_zero, List.nil_append]
  clear hV hW
  by_cases h8 : (splitC 32 s).length ≤ 8
  · rw [if_pos h8]
    have h8' : ¬ (8 < ((splitC 32 s).length : Int)) := by omega
    simp only [h8']
    generalize hA : allM wdS (splitC 32 s) = A at *
    cases A with
    | none =>
      simp only [Option.isSome_none, tmOf]
      repeat' first | apply And.intro | intro _
      all_goals first | omega | exact hw _ ‹_› | trivial | rfl | contradiction | (simp [Tree.ok, tyd_inj, packAV, AV.same, AV.same.sameL, encV, encS, enc, inK, Nd.ok, List.headD_cons, List.cons_append, List.nil_append, List.append_nil, true_and, and_true, Bool.true_and, Bool.and_true]; done) | (simp_all [Tree.ok, tyd_inj, packAV, AV.same, AV.same.sameL, encV, encS, enc, inK, Nd.ok, List.headD_cons, List.cons_append, List.nil_append, List.append_nil, true_and, and_true, Bool.true_and, Bool.and_true]; done) | (trace_state; fail)
    | some l =>
      have hs : ¬ s = [] := fun h => by
        rw [h0 h, h00] at hA; simp at hA
      have hll := allM_len _ _ hA
      rw [hP l rfl]
      simp only [Option.isSome_some, tmOf]
      cases hk : tmapF l
      · have hs2 : ¬ (([] : List UInt8) = s) := fun h => hs h.symm
        simp only [Bool.false_eq_true, false_and, if_false, hs2, decide_false, Bool.not_false]
        repeat' first | apply And.intro | intro _
        all_goals first | omega | exact hw _ ‹_› | trivial | rfl | contradiction | (simp [Tree.ok, tyd_inj, packAV, AV.same, AV.same.sameL, encV, encS, enc, inK, Nd.ok, List.headD_cons, List.cons_append, List.nil_append, List.append_nil, true_and, and_true, Bool.true_and, Bool.and_true]; done) | (simp_all [Tree.ok, tyd_inj, packAV, AV.same, AV.same.sameL, encV, encS, enc, inK, Nd.ok, List.headD_cons, List.cons_append, List.nil_append, List.append_nil, true_and, and_true, Bool.true_and, Bool.and_true]; done) | (trace_state; fail)
      · simp only [true_and, if_true]
        by_cases ht : tempoT l = s
        · simp only [ht, hs, if_true, decide_true, decide_false, Bool.not_true, Bool.false_eq_true, false_implies, true_implies]
          repeat' first | apply And.intro | intro _
          all_goals first | omega | exact hw _ ‹_› | trivial | rfl | contradiction | (simp [Tree.ok, tyd_inj, packAV, AV.same, AV.same.sameL, encV, encS, enc, inK, Nd.ok, List.headD_cons, List.cons_append, List.nil_append, List.append_nil, true_and, and_true, Bool.true_and, Bool.and_true]; done) | (simp_all [Tree.ok, tyd_inj, packAV, AV.same, AV.same.sameL, encV, encS, enc, inK, Nd.ok, List.headD_cons, List.cons_append, List.nil_append, List.append_nil, true_and, and_true, Bool.true_and, Bool.and_true]; done) | (trace_state; fail)
        · simp only [ht, if_false, decide_false, Bool.not_false, true_implies, Bool.true_eq_false, false_implies]
          repeat' first | apply And.intro | intro _
          all_goals first | omega | exact hw _ ‹_› | trivial | rfl | contradiction | (simp [Tree.ok, tyd_inj, packAV, AV.same, AV.same.sameL, encV, encS, enc, inK, Nd.ok, List.headD_cons, List.cons_append, List.nil_append, List.append_nil, true_and, and_true, Bool.true_and, Bool.and_true]; done) | (simp_all [Tree.ok, tyd_inj, packAV, AV.same, AV.same.sameL, encV, encS, enc, inK, Nd.ok, List.headD_cons, List.cons_append, List.nil_append, List.append_nil, true_and, and_true, Bool.true_and, Bool.and_true]; done) | (trace_state; fail)
  · rw [if_neg h8]
    have h8' : (8 < ((splitC 32 s).length : Int)) := by omega
    simp only [h8']
    repeat' first | apply And.intro | intro _
    all_goals first | omega | exact hw _ ‹_› | trivial | rfl | contradiction | (simp [Tree.ok, tyd_inj, packAV, AV.same, AV.same.sameL, encV, encS, enc, inK, Nd.ok, List.headD_cons, List.cons_append, List.nil_append, List.append_nil, true_and, and_true, Bool.true_and, Bool.and_true]; done) | (simp_all [Tree.ok, tyd_inj, packAV, AV.same, AV.same.sameL, encV, encS, enc, inK, Nd.ok, List.headD_cons, List.cons_append, List.nil_append, List.append_nil, true_and, and_true, Bool.true_and, Bool.and_true]; done) | (trace_state; fail)
def C_Rt_3 : FuncId → Option Ct := addC 7 ct_sReadTempos C_Rt_2
theorem C_Rt_3_ok : COk Tryz.prog C_Rt_3 := addC_ok C_Rt_2_ok sat_sReadTempos

def C_Rt : FuncId → Option Ct := C_Rt_3
theorem C_Rt_ok : COk Tryz.prog C_Rt := C_Rt_3_ok
end Go.Proofs.YtkeckmdmmbeaiaaGreatDoor
