/- Contracts: numerals and strings some times over, of the program and the reference. Conditions: as each says. -/
import Derived.Test.YtkeckmdmmbeaiaaDoorUf
set_option linter.unusedSimpArgs false
set_option linter.unusedVariables false
namespace Go.Proofs.YtkeckmdmmbeaiaaDoor
open Go.RowKit Sx
set_option maxRecDepth 100000
set_option maxHeartbeats 1000000
def C_UtB : FuncId → Option Ct := addC 107 ct_Repeat (addC 108 ct_FormatInt noC)
theorem C_UtB_ok : COk Tryd.prog C_UtB := addC_ok (addC_ok (noC_ok Tryd.prog) sat_FormatInt) sat_Repeat
def ct_Decimal : Ct := ctOf [.v (.int .i64)] (fun ((n : Int), _) => .p (-9223372036854775808 ≤ n ∧ n ≤ 9223372036854775807)) (fun ((n : Int), _) => .str (decT n))
set_option maxHeartbeats 1000000 in
theorem sat_Decimal : Sat Tryd.prog 56 ct_Decimal := by
  refine sat_typed (C := C_UtB) (L := noL) (wr := false) mixedOk Tryd.func56 C_UtB_ok (loops0 (by kernel_rfl)) (fun _ => by first | rfl | (simp [ownsOf, ownsOf.ownsL, enc, encV, encS])) fun x hp => ?_
  obtain ⟨(n : Int), _⟩ := x
  replace hp : -9223372036854775808 ≤ n ∧ n ≤ 9223372036854775807 := hp
  have htree : exFunc Tryd.prog C_UtB false noL Tryd.f56 (encA [.v (.int .i64)] (n, ())) = .need ((10 : Int) = (10 : Int) ∧ (-9223372036854775808 : Int) ≤ n ∧ n ≤ (9223372036854775807 : Int)) (.leaf [.str (decT n)]) := by kernel_rfl
  refine (congrArg (Tree.ok _) htree).mpr ?_
  clear htree
  simp only [Tree.ok, tyd_inj, packAV, AV.same, AV.same.sameL, encV, encS, enc, inK, Nd.ok, List.headD_cons, List.cons_append, List.nil_append, List.append_nil, true_and, and_true, Bool.true_and, Bool.and_true]
  repeat' first | apply And.intro | intro _
  all_goals first | omega | trivial | rfl
def C_Ut_1 : FuncId → Option Ct := addC 56 ct_Decimal C_UtB
theorem C_Ut_1_ok : COk Tryd.prog C_Ut_1 := addC_ok C_UtB_ok sat_Decimal
def ann_l01Dec_0 : LAnn := { sameS := [0], modS := [2, 3, 4], sameH := [], modH := [], base := 900000, nilE := [], nilB := [], G := fun
  | ⟨[.int .i64 n], [], [.str r, .own (.int .u8) out, .int .i64 k], []⟩ => some (.p ((-1000000000000000000 ≤ k ∧ k ≤ 1000000000000000000) ∧ (dgI k.natAbs).length + out.length ≤ 19), .leaf (.exit 0) [.str r, .own (.int .u8) (dgI k.natAbs ++ out), .unk] [])
  | _ => none }
def ct_l01Dec : Ct := ctOf [.v (.int .i64)] (fun ((n : Int), _) => .p (-1000000000000000000 ≤ n ∧ n ≤ 1000000000000000000)) (fun ((n : Int), _) => .str (decT n))
set_option maxHeartbeats 1000000 in
theorem loop_l01Dec_0 : LoopSat Tryd.prog Tryd.f106.ntmps (loopAt Tryd.f106 0) ann_l01Dec_0 := by
  refine loopSat_of (C := C_Ut_1) (L := (addL (firstId (loopAt Tryd.f106 0)) ann_l01Dec_0 noL)) (wr := false) mixedOk C_Ut_1_ok (loopsIn0 (by kernel_rfl)) (fun d => match d.vals with | [_, _, .int _ k] => k.natAbs | _ => 0) fun d p t hG hp => ?_
  simp only [ann_l01Dec_0] at hG
  split at hG
  rotate_left
  · simp at hG
  rename_i n r out k
  simp only [Option.some.injEq, Prod.mk.injEq] at hG
  obtain ⟨rfl, rfl⟩ := hG
  have htree : exRound Tryd.prog C_Ut_1 false (addL (firstId (loopAt Tryd.f106 0)) ann_l01Dec_0 noL) Tryd.f106.ntmps ann_l01Dec_0 (loopAt Tryd.f106 0) ⟨[.int .i64 n], [], [.str r, .own (.int .u8) out, .int .i64 k], []⟩ = .ite (k != (0 : Int)) (.need ((10 : Int) ≠ (0 : Int)) (.ite (decide (k.tmod (10 : Int) < (0 : Int))) (.need (inK IntKind.i64 ((0 : Int) - k.tmod (10 : Int))) (.need (inK IntKind.i64 ((48 : Int) + ((0 : Int) - k.tmod (10 : Int)))) (.need (inK IntKind.u8 ((48 : Int) + ((0 : Int) - k.tmod (10 : Int)))) (.need ([(48 : Int) + ((0 : Int) - k.tmod (10 : Int))].length + out.length ≤ (16777216 : Nat)) (.need ((10 : Int) ≠ (0 : Int) ∧ inK IntKind.i64 (k.tdiv (10 : Int))) (.leaf (.normal, ⟨[.int .i64 (n)], [], [.str (r), .own (Ty.int IntKind.u8) ([(48 : Int) + ((0 : Int) - k.tmod (10 : Int))] ++ out), .int .i64 (k.tdiv (10 : Int))], []⟩))))))) (.need (inK IntKind.i64 ((48 : Int) + k.tmod (10 : Int))) (.need (inK IntKind.u8 ((48 : Int) + k.tmod (10 : Int))) (.need ([(48 : Int) + k.tmod (10 : Int)].length + out.length ≤ (16777216 : Nat)) (.need ((10 : Int) ≠ (0 : Int) ∧ inK IntKind.i64 (k.tdiv (10 : Int))) (.leaf (.normal, ⟨[.int .i64 (n)], [], [.str (r), .own (Ty.int IntKind.u8) ([(48 : Int) + k.tmod (10 : Int)] ++ out), .int .i64 (k.tdiv (10 : Int))], []⟩)))))))) (.leaf ((.exit 0), ⟨[.int .i64 (n)], [], [.str (r), .own (Ty.int IntKind.u8) (out), .int .i64 (k)], []⟩)) := by kernel_rfl
  rw [htree]
  clear htree
  replace hp : (-1000000000000000000 ≤ k ∧ k ≤ 1000000000000000000) ∧ (dgI k.natAbs).length + out.length ≤ 19 := hp
  obtain ⟨hk, hl⟩ := hp
  have q1 : (Int.tdiv k 10).natAbs = k.natAbs / 10 := Int.natAbs_tdiv k 10
  have q2 : (Int.tmod k 10).natAbs = k.natAbs % 10 := Int.natAbs_tmod k 10
  simp only [Tree.ok, tyd_inj, packAV, AV.same, AV.same.sameL, encV, encS, enc, inK, Nd.ok, List.headD_cons, List.cons_append, List.nil_append, List.append_nil, true_and, and_true, Bool.true_and, Bool.and_true, loop_next, weakBs_nil, weakBs_cons, weakB_self, weakB_row, weakB_int, weakL_nil, weakL_unk, weakL_guess, isRow_own, isRow_unk, weakL_int, weakL_bool, weakL_str, weakL_own, weakL_view, weakL_nilS, noRow_int, noRow_bool, own_inj, LTree.val, cond_true, cond_false, Prod.mk.injEq, List.cons.injEq, AV.int.injEq, AV.bool.injEq, AV.str.injEq, AV.agg.injEq, ann_l01Dec_0, bne_iff_ne, ne_eq, bne_eq_false_iff_eq, decide_eq_true_eq, decide_eq_false_iff_not, List.length_cons, List.length_nil, List.cons_append, List.nil_append]
  refine ⟨fun ha => ?_, fun ha => ?_⟩
  · have hs := dgI_step ha out
    have hlen : (dgI k.natAbs).length = (dgI (Int.tdiv k 10).natAbs).length + 1 := by rw [dgI_pos (by omega), q1]; simp
    rw [hs]
    generalize Int.tdiv k 10 = q at *
    generalize Int.tmod k 10 = r at *
    by_cases hr : r < 0
    · have e : (0 - r : Int) = ((k.natAbs % 10 : Nat) : Int) := by omega
      simp only [e]
      repeat' first | apply And.intro | intro _
      all_goals first | omega | trivial | rfl | contradiction
    · have e : r = ((k.natAbs % 10 : Nat) : Int) := by omega
      simp only [hr, false_implies, not_false_eq_true, true_implies, true_and]
      rw [← e]
      repeat' first | apply And.intro | intro _
      all_goals first | omega | trivial | rfl | contradiction
  · subst ha
    rw [show (0 : Int).natAbs = 0 from rfl, dgI_nil]
    try simp [Tree.ok, tyd_inj, packAV, AV.same, AV.same.sameL, encV, encS, enc, inK, Nd.ok, List.headD_cons, List.cons_append, List.nil_append, List.append_nil, true_and, and_true, Bool.true_and, Bool.and_true, loop_next, weakBs_nil, weakBs_cons, weakB_self, weakB_row, weakB_int, weakL_nil, weakL_unk, weakL_guess, isRow_own, isRow_unk, weakL_int, weakL_bool, weakL_str, weakL_own, weakL_view, weakL_nilS, noRow_int, noRow_bool, own_inj, LTree.val, cond_true, cond_false, Prod.mk.injEq, List.cons.injEq, AV.int.injEq, AV.bool.injEq, AV.str.injEq, AV.agg.injEq]
theorem loops_l01Dec : ∀ c, Tryd.f106.body = some c → LoopsOk Tryd.prog (addL (firstId (loopAt Tryd.f106 0)) ann_l01Dec_0 noL) Tryd.f106.ntmps c := loopsN fun i hi ann h => by
  have hn : loopN Tryd.f106 = 1 := by kernel_rfl
  rw [hn] at hi
  exact match i, hi, h with
    | 0, _, h => (Option.some.inj ((show (addL (firstId (loopAt Tryd.f106 0)) ann_l01Dec_0 noL) (firstId (loopAt Tryd.f106 0)) = some ann_l01Dec_0 from by kernel_rfl).symm.trans h)) ▸ loop_l01Dec_0
set_option maxHeartbeats 1000000 in
theorem sat_l01Dec : Sat Tryd.prog 106 ct_l01Dec := by
  refine sat_typed (C := C_Ut_1) (L := (addL (firstId (loopAt Tryd.f106 0)) ann_l01Dec_0 noL)) (wr := false) mixedOk Tryd.func106 C_Ut_1_ok (loops_l01Dec) (fun _ => by first | rfl | (simp [ownsOf, ownsOf.ownsL, enc, encV, encS])) fun x hp => ?_
  obtain ⟨(n : Int), _⟩ := x
  replace hp : -1000000000000000000 ≤ n ∧ n ≤ 1000000000000000000 := hp
  have htree : exFunc Tryd.prog C_Ut_1 false (addL (firstId (loopAt Tryd.f106 0)) ann_l01Dec_0 noL) Tryd.f106 (encA [.v (.int .i64)] (n, ())) = .need (((-1000000000000000000 : Int) ≤ n ∧ n ≤ (1000000000000000000 : Int)) ∧ (dgI n.natAbs).length + (0 : Nat) ≤ (19 : Nat)) (.ite ((↑(dgI n.natAbs ++ []).length : Int) == (0 : Int)) (.leaf [.str (#[(48 : UInt8)].toList)]) (.ite (decide (n < (0 : Int))) (.need ((↑#[(45 : UInt8)].toList.length : Int) + (↑(toU8 (dgI n.natAbs ++ [])).length : Int) ≤ (9223372036854775807 : Int)) (.leaf [.str (#[(45 : UInt8)].toList ++ toU8 (dgI n.natAbs ++ []))])) (.leaf [.str (toU8 (dgI n.natAbs ++ []))]))) := by kernel_rfl
  refine (congrArg (Tree.ok _) htree).mpr ?_
  clear htree
  have hl : (dgI n.natAbs).length ≤ 19 := dgI_len _ 19 (by omega)
  have h8 : ∀ l : List Int, (toU8 l).length = l.length := fun l => by unfold toU8; exact List.length_map _
  simp only [Tree.ok, tyd_inj, packAV, AV.same, AV.same.sameL, encV, encS, enc, inK, Nd.ok, List.headD_cons, List.cons_append, List.nil_append, List.append_nil, true_and, and_true, Bool.true_and, Bool.and_true, List.append_nil, h8, beq_iff_eq, beq_eq_false_iff_ne, ne_eq, decide_eq_true_eq, decide_eq_false_iff_not]
  refine ⟨⟨hp, by omega⟩, fun h0 => ?_, fun h0 => ⟨fun h1 => ⟨?_, ?_⟩, fun h1 => ?_⟩⟩
  · have hn : n = 0 := by
      refine Classical.byContradiction fun hn => ?_
      have := dgI_ne (m := n.natAbs) (by omega)
      exact this (List.length_eq_zero_iff.1 (by omega))
    subst hn
    exact decT_zero.symm
  · first | (simp; done) | (simp; omega)
  · exact (decT_neg h1).symm
  · have hn : n ≠ 0 := fun hn => h0 (by subst hn; rw [show (0 : Int).natAbs = 0 from rfl, dgI_zero]; rfl)
    exact (decT_pos (by omega)).symm
def C_Ut_2 : FuncId → Option Ct := addC 106 ct_l01Dec C_Ut_1
theorem C_Ut_2_ok : COk Tryd.prog C_Ut_2 := addC_ok C_Ut_1_ok sat_l01Dec
def ct_times : Ct := ctOf [.v .str, .v (.int .i64)] (fun ((s : List UInt8), (n : Int), _) => .p ((1 ≤ s.length ∧ s.length ≤ 1000) ∧ -1000 ≤ n ∧ n ≤ 1000)) (fun ((s : List UInt8), (n : Int), _) => .str (Go.Lib.repeatL s n.toNat))
set_option maxHeartbeats 1000000 in
theorem sat_times : Sat Tryd.prog 55 ct_times := by
  refine sat_typed (C := C_Ut_2) (L := noL) (wr := false) mixedOk Tryd.func55 C_Ut_2_ok (loops0 (by kernel_rfl)) (fun _ => by first | rfl | (simp [ownsOf, ownsOf.ownsL, enc, encV, encS])) fun x hp => ?_
  obtain ⟨(s : List UInt8), (n : Int), _⟩ := x
  replace hp : (1 ≤ s.length ∧ s.length ≤ 1000) ∧ -1000 ≤ n ∧ n ≤ 1000 := hp
  have htree : exFunc Tryd.prog C_Ut_2 false noL Tryd.f55 (encA [.v .str, .v (.int .i64)] (s, n, ())) = .need ((1 : Nat) ≤ s.length ∧ s.length ≤ (1000 : Nat) ∧ ((0 : Int) ≤ bif true then max (0 : Int) n else min (0 : Int) n) ∧ (bif true then max (0 : Int) n else min (0 : Int) n) ≤ (1000 : Int)) (.leaf [.str (Lib.repeatL s (bif true then max (0 : Int) n else min (0 : Int) n).toNat)]) := by kernel_rfl
  refine (congrArg (Tree.ok _) htree).mpr ?_
  clear htree
  simp only [Tree.ok, tyd_inj, packAV, AV.same, AV.same.sameL, encV, encS, enc, inK, Nd.ok, List.headD_cons, List.cons_append, List.nil_append, List.append_nil, true_and, and_true, Bool.true_and, Bool.and_true, cond_true]
  rw [show (max 0 n).toNat = n.toNat by omega]
  repeat' first | apply And.intro | intro _
  all_goals first | omega | trivial | rfl
def C_Ut_3 : FuncId → Option Ct := addC 55 ct_times C_Ut_2
theorem C_Ut_3_ok : COk Tryd.prog C_Ut_3 := addC_ok C_Ut_2_ok sat_times
def ann_l16Times_0 : LAnn := { sameS := [0], modS := [1, 4, 5], sameH := [], modH := [], base := 900000, nilE := [], nilB := [], G := fun
  | ⟨[.str s], [], [.int .i64 n, .str r, .str o], []⟩ => some (.p ((1 ≤ s.length ∧ s.length ≤ 1000) ∧ (-1000 ≤ n ∧ n ≤ 1000) ∧ o.length + 1000 * n.toNat ≤ 1000000), .leaf (.exit 0) [.unk, .str r, .str (o ++ Go.Lib.repeatL s n.toNat)] [])
  | _ => none }
def ct_l16Times : Ct := ctOf [.v .str, .v (.int .i64)] (fun ((s : List UInt8), (n : Int), _) => .p ((1 ≤ s.length ∧ s.length ≤ 1000) ∧ -1000 ≤ n ∧ n ≤ 1000)) (fun ((s : List UInt8), (n : Int), _) => .str (Go.Lib.repeatL s n.toNat))
set_option maxHeartbeats 1000000 in
theorem loop_l16Times_0 : LoopSat Tryd.prog Tryd.f105.ntmps (loopAt Tryd.f105 0) ann_l16Times_0 := by
  refine loopSat_of (C := C_Ut_3) (L := (addL (firstId (loopAt Tryd.f105 0)) ann_l16Times_0 noL)) (wr := false) mixedOk C_Ut_3_ok (loopsIn0 (by kernel_rfl)) (fun d => match d.vals with | [.int _ n, _, _] => n.toNat | _ => 0) fun d p t hG hp => ?_
  simp only [ann_l16Times_0] at hG
  split at hG
  rotate_left
  · simp at hG
  rename_i s n r o
  simp only [Option.some.injEq, Prod.mk.injEq] at hG
  obtain ⟨rfl, rfl⟩ := hG
  have htree : exRound Tryd.prog C_Ut_3 false (addL (firstId (loopAt Tryd.f105 0)) ann_l16Times_0 noL) Tryd.f105.ntmps ann_l16Times_0 (loopAt Tryd.f105 0) ⟨[.str s], [], [.int .i64 n, .str r, .str o], []⟩ = .ite (decide ((0 : Int) < n)) (.need ((↑o.length : Int) + (↑s.length : Int) ≤ (9223372036854775807 : Int)) (.need (inK IntKind.i64 (n - (1 : Int))) (.leaf (.normal, ⟨[.str (s)], [], [.int .i64 (n - (1 : Int)), .str (r), .str (o ++ s)], []⟩)))) (.leaf ((.exit 0), ⟨[.str (s)], [], [.int .i64 (n), .str (r), .str (o)], []⟩)) := by kernel_rfl
  rw [htree]
  clear htree
  replace hp : (1 ≤ s.length ∧ s.length ≤ 1000) ∧ (-1000 ≤ n ∧ n ≤ 1000) ∧ o.length + 1000 * n.toNat ≤ 1000000 := hp
  obtain ⟨hs, hn, ho⟩ := hp
  simp only [Tree.ok, tyd_inj, packAV, AV.same, AV.same.sameL, encV, encS, enc, inK, Nd.ok, List.headD_cons, List.cons_append, List.nil_append, List.append_nil, true_and, and_true, Bool.true_and, Bool.and_true, loop_next, weakBs_nil, weakBs_cons, weakB_self, weakB_row, weakB_int, weakL_nil, weakL_unk, weakL_guess, isRow_own, isRow_unk, weakL_int, weakL_bool, weakL_str, weakL_own, weakL_view, weakL_nilS, noRow_int, noRow_bool, own_inj, LTree.val, cond_true, cond_false, Prod.mk.injEq, List.cons.injEq, AV.int.injEq, AV.bool.injEq, AV.str.injEq, AV.agg.injEq, ann_l16Times_0, decide_eq_true_eq, decide_eq_false_iff_not]
  refine ⟨fun ha => ?_, fun ha => ?_⟩
  · obtain ⟨m, hm⟩ : ∃ m, n.toNat = m + 1 := ⟨n.toNat - 1, by omega⟩
    rw [show (n - 1).toNat = m by omega, hm, show Go.Lib.repeatL s (m + 1) = s ++ Go.Lib.repeatL s m from rfl, List.length_append, List.append_assoc]
    repeat' first | apply And.intro | intro _
    all_goals first | omega | trivial | rfl | contradiction
  · rw [show n.toNat = 0 by omega]
    simp [Tree.ok, tyd_inj, packAV, AV.same, AV.same.sameL, encV, encS, enc, inK, Nd.ok, List.headD_cons, List.cons_append, List.nil_append, List.append_nil, true_and, and_true, Bool.true_and, Bool.and_true, loop_next, weakBs_nil, weakBs_cons, weakB_self, weakB_row, weakB_int, weakL_nil, weakL_unk, weakL_guess, isRow_own, isRow_unk, weakL_int, weakL_bool, weakL_str, weakL_own, weakL_view, weakL_nilS, noRow_int, noRow_bool, own_inj, LTree.val, cond_true, cond_false, Prod.mk.injEq, List.cons.injEq, AV.int.injEq, AV.bool.injEq, AV.str.injEq, AV.agg.injEq, Go.Lib.repeatL]
theorem loops_l16Times : ∀ c, Tryd.f105.body = some c → LoopsOk Tryd.prog (addL (firstId (loopAt Tryd.f105 0)) ann_l16Times_0 noL) Tryd.f105.ntmps c := loopsN fun i hi ann h => by
  have hn : loopN Tryd.f105 = 1 := by kernel_rfl
  rw [hn] at hi
  exact match i, hi, h with
    | 0, _, h => (Option.some.inj ((show (addL (firstId (loopAt Tryd.f105 0)) ann_l16Times_0 noL) (firstId (loopAt Tryd.f105 0)) = some ann_l16Times_0 from by kernel_rfl).symm.trans h)) ▸ loop_l16Times_0
set_option maxHeartbeats 1000000 in
theorem sat_l16Times : Sat Tryd.prog 105 ct_l16Times := by
  refine sat_typed (C := C_Ut_3) (L := (addL (firstId (loopAt Tryd.f105 0)) ann_l16Times_0 noL)) (wr := false) mixedOk Tryd.func105 C_Ut_3_ok (loops_l16Times) (fun _ => by first | rfl | (simp [ownsOf, ownsOf.ownsL, enc, encV, encS])) fun x hp => ?_
  obtain ⟨(s : List UInt8), (n : Int), _⟩ := x
  replace hp : (1 ≤ s.length ∧ s.length ≤ 1000) ∧ -1000 ≤ n ∧ n ≤ 1000 := hp
  have htree : exFunc Tryd.prog C_Ut_3 false (addL (firstId (loopAt Tryd.f105 0)) ann_l16Times_0 noL) Tryd.f105 (encA [.v .str, .v (.int .i64)] (s, n, ())) = .need (((1 : Nat) ≤ s.length ∧ s.length ≤ (1000 : Nat)) ∧ ((-1000 : Int) ≤ n ∧ n ≤ (1000 : Int)) ∧ ([] : List UInt8).length + (1000 : Nat) * n.toNat ≤ (1000000 : Nat)) (.leaf [.str (([] : List UInt8) ++ Lib.repeatL s n.toNat)]) := by kernel_rfl
  refine (congrArg (Tree.ok _) htree).mpr ?_
  clear htree
  simp only [Tree.ok, tyd_inj, packAV, AV.same, AV.same.sameL, encV, encS, enc, inK, Nd.ok, List.headD_cons, List.cons_append, List.nil_append, List.append_nil, true_and, and_true, Bool.true_and, Bool.and_true]
  repeat' first | apply And.intro | intro _
  all_goals first | omega | trivial | rfl | (simp; done) | (simp; omega)
def C_Ut_4 : FuncId → Option Ct := addC 105 ct_l16Times C_Ut_3
theorem C_Ut_4_ok : COk Tryd.prog C_Ut_4 := addC_ok C_Ut_3_ok sat_l16Times

def C_Ut : FuncId → Option Ct := C_Ut_4
theorem C_Ut_ok : COk Tryd.prog C_Ut := C_Ut_4_ok
end Go.Proofs.YtkeckmdmmbeaiaaDoor
