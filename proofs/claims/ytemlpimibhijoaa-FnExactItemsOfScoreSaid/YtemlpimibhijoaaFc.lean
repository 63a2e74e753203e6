/- Contracts: fractions, of the program and the reference. Conditions: as each says. -/
import Derived.Test.YtemlpimibhijoaaFb
set_option linter.unusedSimpArgs false
set_option linter.unusedVariables false
namespace Go.Proofs.Ytemlpimibhijoaa
open Go.RowKit Sx
set_option maxRecDepth 100000
set_option maxHeartbeats 1000000
def ct_within : Ct := ctOf [.v (.int .i64), .v (.int .i64), .v (.int .i64)] (fun _ => .tt) (fun ((n : Int), (lo : Int), (hi : Int), _) => .bool (inB n lo hi))
set_option maxHeartbeats 1000000 in
theorem sat_within : Sat Try.prog 56 ct_within := by
  refine sat_typed (C := C_Fb) (L := noL) (wr := false) mixedOk Try.func56 C_Fb_ok (loops0 (by kernel_rfl)) (fun _ => by first | rfl | (simp [ownsOf, ownsOf.ownsL, enc, encV, encS])) fun x hp => ?_
  obtain ⟨(n : Int), (lo : Int), (hi : Int), _⟩ := x
  clear hp
  have htree : exFunc Try.prog C_Fb false noL Try.f56 (encA [.v (.int .i64), .v (.int .i64), .v (.int .i64)] (n, lo, hi, ())) = .ite (decide (lo ≤ n)) (.leaf [.bool (decide (n ≤ hi))]) (.leaf [.lit false]) := by kernel_rfl
  refine (congrArg (Tree.ok _) htree).mpr ?_
  clear htree
  simp [Tree.ok, tyd_inj, packAV, AV.same, AV.same.sameL, encV, encS, enc, inK, Nd.ok, List.headD_cons, List.cons_append, List.nil_append, List.append_nil, true_and, and_true, Bool.true_and, Bool.and_true, inB]; omega
def C_Fc_1 : FuncId → Option Ct := addC 56 ct_within C_Fb
theorem C_Fc_1_ok : COk Try.prog C_Fc_1 := addC_ok C_Fb_ok sat_within
def ct_l00In : Ct := ctOf [.v (.int .i64), .v (.int .i64), .v (.int .i64)] (fun _ => .tt) (fun ((n : Int), (lo : Int), (hi : Int), _) => .bool (inB n lo hi))
set_option maxHeartbeats 1000000 in
theorem sat_l00In : Sat Try.prog 27 ct_l00In := by
  refine sat_typed (C := C_Fc_1) (L := noL) (wr := false) mixedOk Try.func27 C_Fc_1_ok (loops0 (by kernel_rfl)) (fun _ => by first | rfl | (simp [ownsOf, ownsOf.ownsL, enc, encV, encS])) fun x hp => ?_
  obtain ⟨(n : Int), (lo : Int), (hi : Int), _⟩ := x
  clear hp
  have htree : exFunc Try.prog C_Fc_1 false noL Try.f27 (encA [.v (.int .i64), .v (.int .i64), .v (.int .i64)] (n, lo, hi, ())) = .ite (decide (lo ≤ n)) (.leaf [.bool (decide (n ≤ hi))]) (.leaf [.lit false]) := by kernel_rfl
  refine (congrArg (Tree.ok _) htree).mpr ?_
  clear htree
  simp [Tree.ok, tyd_inj, packAV, AV.same, AV.same.sameL, encV, encS, enc, inK, Nd.ok, List.headD_cons, List.cons_append, List.nil_append, List.append_nil, true_and, and_true, Bool.true_and, Bool.and_true, inB]; omega
def C_Fc_2 : FuncId → Option Ct := addC 27 ct_l00In C_Fc_1
theorem C_Fc_2_ok : COk Try.prog C_Fc_2 := addC_ok C_Fc_1_ok sat_l00In
def ct_isKey : Ct := ctOf [.v (.int .i64)] (fun _ => .tt) (fun ((n : Int), _) => .bool (inB n 0 127))
set_option maxHeartbeats 1000000 in
theorem sat_isKey : Sat Try.prog 113 ct_isKey := by
  refine sat_typed (C := C_Fc_2) (L := noL) (wr := false) mixedOk Try.func113 C_Fc_2_ok (loops0 (by kernel_rfl)) (fun _ => by first | rfl | (simp [ownsOf, ownsOf.ownsL, enc, encV, encS])) fun x hp => ?_
  obtain ⟨(n : Int), _⟩ := x
  clear hp
  have htree : exFunc Try.prog C_Fc_2 false noL Try.f113 (encA [.v (.int .i64)] (n, ())) = .leaf [.bool (inB n (0 : Int) (127 : Int))] := by kernel_rfl
  refine (congrArg (Tree.ok _) htree).mpr ?_
  clear htree
  simp [Tree.ok, tyd_inj, packAV, AV.same, AV.same.sameL, encV, encS, enc, inK, Nd.ok, List.headD_cons, List.cons_append, List.nil_append, List.append_nil, true_and, and_true, Bool.true_and, Bool.and_true]
def C_Fc_3 : FuncId → Option Ct := addC 113 ct_isKey C_Fc_2
theorem C_Fc_3_ok : COk Try.prog C_Fc_3 := addC_ok C_Fc_2_ok sat_isKey
theorem gcd_step (a b : Int) : Int.gcd b (a.tmod b) = Int.gcd a b := by
  show Nat.gcd b.natAbs (a.tmod b).natAbs = Nat.gcd a.natAbs b.natAbs
  rw [Int.natAbs_tmod]
  exact (Nat.gcd_comm _ _).trans ((Nat.gcd_rec b.natAbs a.natAbs).symm.trans (Nat.gcd_comm _ _))
theorem gcd_stop (a : Int) (h : 0 ≤ a) : ((Int.gcd a 0 : Nat) : Int) = a := by
  show ((Nat.gcd a.natAbs 0 : Nat) : Int) = a
  rw [Nat.gcd_zero_right]; omega
theorem gcd_abs (a b : Int) : Int.gcd (a.natAbs : Int) b = Int.gcd a b := by
  show Nat.gcd (a.natAbs : Int).natAbs b.natAbs = Nat.gcd a.natAbs b.natAbs
  rw [Int.natAbs_natCast]
theorem gcd_abs2 (a b : Int) : Int.gcd a (b.natAbs : Int) = Int.gcd a b := by
  show Nat.gcd a.natAbs (b.natAbs : Int).natAbs = Nat.gcd a.natAbs b.natAbs
  rw [Int.natAbs_natCast]
def ann_gcd_0 : LAnn := { sameS := [], modS := [0, 1], sameH := [], modH := [], base := 900000, nilE := [], nilB := [], G := fun
  | ⟨[], [], [.int .u64 a, .int .u64 b], []⟩ => some (.p (0 ≤ a ∧ 0 ≤ b), .leaf (.exit 0) [.int .u64 (Int.gcd a b : Int), .int .u64 0] [])
  | _ => none }
def ct_gcd : Ct := ctOf [.v (.int .u64), .v (.int .u64)] (fun ((a : Int), (b : Int), _) => .p (0 ≤ a ∧ 0 ≤ b)) (fun ((a : Int), (b : Int), _) => .int .u64 (Int.gcd a b : Int))
set_option maxHeartbeats 1000000 in
theorem loop_gcd_0 : LoopSat Try.prog Try.f122.ntmps (loopAt Try.f122 0) ann_gcd_0 := by
  refine loopSat_of (C := C_Fc_3) (L := (addL (firstId (loopAt Try.f122 0)) ann_gcd_0 noL)) (wr := false) mixedOk C_Fc_3_ok (loopsIn0 (by kernel_rfl)) (fun d => match d.vals with | [_, .int _ b] => b.toNat | _ => 0) fun d p t hG hp => ?_
  simp only [ann_gcd_0] at hG
  split at hG
  rotate_left
  · simp at hG
  rename_i a b
  simp only [Option.some.injEq, Prod.mk.injEq] at hG
  obtain ⟨rfl, rfl⟩ := hG
  have htree : exRound Try.prog C_Fc_3 false (addL (firstId (loopAt Try.f122 0)) ann_gcd_0 noL) Try.f122.ntmps ann_gcd_0 (loopAt Try.f122 0) ⟨[], [], [.int .u64 a, .int .u64 b], []⟩ = .ite (b != (0 : Int)) (.need (b ≠ (0 : Int)) (.leaf (.normal, ⟨[], [], [.int .u64 (b), .int .u64 (a.tmod b)], []⟩))) (.leaf ((.exit 0), ⟨[], [], [.int .u64 (a), .int .u64 (b)], []⟩)) := by kernel_rfl
  rw [htree]
  clear htree
  replace hp : 0 ≤ a ∧ 0 ≤ b := hp
  have h1 := Int.tmod_nonneg (a := a) b hp.1
  have h2 := Int.tmod_lt_of_pos (b := b) a
  simp only [Tree.ok, tyd_inj, packAV, AV.same, AV.same.sameL, encV, encS, enc, inK, Nd.ok, List.headD_cons, List.cons_append, List.nil_append, List.append_nil, true_and, and_true, Bool.true_and, Bool.and_true, loop_next, weakBs_nil, weakBs_cons, weakB_self, weakB_row, weakB_int, weakL_nil, weakL_unk, weakL_guess, isRow_own, isRow_unk, weakL_int, weakL_bool, weakL_str, weakL_own, weakL_view, weakL_nilS, noRow_int, noRow_bool, own_inj, LTree.val, cond_true, cond_false, Prod.mk.injEq, List.cons.injEq, AV.int.injEq, AV.bool.injEq, AV.str.injEq, AV.agg.injEq, ann_gcd_0, bne_iff_ne, ne_eq, bne_eq_false_iff_eq]
  refine ⟨fun ha => ?_, fun ha => ?_⟩
  · exact ⟨ha, by have := h2 (by omega); omega, ⟨hp.2, h1⟩, by rw [gcd_step]⟩
  · subst ha
    exact ⟨(gcd_stop a hp.1).symm, rfl⟩
theorem loops_gcd : ∀ c, Try.f122.body = some c → LoopsOk Try.prog (addL (firstId (loopAt Try.f122 0)) ann_gcd_0 noL) Try.f122.ntmps c := loopsN fun i hi ann h => by
  have hn : loopN Try.f122 = 1 := by kernel_rfl
  rw [hn] at hi
  exact match i, hi, h with
    | 0, _, h => (Option.some.inj ((show (addL (firstId (loopAt Try.f122 0)) ann_gcd_0 noL) (firstId (loopAt Try.f122 0)) = some ann_gcd_0 from by kernel_rfl).symm.trans h)) ▸ loop_gcd_0
set_option maxHeartbeats 1000000 in
theorem sat_gcd : Sat Try.prog 122 ct_gcd := by
  refine sat_typed (C := C_Fc_3) (L := (addL (firstId (loopAt Try.f122 0)) ann_gcd_0 noL)) (wr := false) mixedOk Try.func122 C_Fc_3_ok (loops_gcd) (fun _ => by first | rfl | (simp [ownsOf, ownsOf.ownsL, enc, encV, encS])) fun x hp => ?_
  obtain ⟨(a : Int), (b : Int), _⟩ := x
  replace hp : 0 ≤ a ∧ 0 ≤ b := hp
  have htree : exFunc Try.prog C_Fc_3 false (addL (firstId (loopAt Try.f122 0)) ann_gcd_0 noL) Try.f122 (encA [.v (.int .u64), .v (.int .u64)] (a, b, ())) = .need ((0 : Int) ≤ a ∧ (0 : Int) ≤ b) (.leaf [.int .u64 ((↑(a.gcd b) : Int))]) := by kernel_rfl
  refine (congrArg (Tree.ok _) htree).mpr ?_
  clear htree
  simp only [Tree.ok, tyd_inj, packAV, AV.same, AV.same.sameL, encV, encS, enc, inK, Nd.ok, List.headD_cons, List.cons_append, List.nil_append, List.append_nil, true_and, and_true, Bool.true_and, Bool.and_true]
  exact hp
def C_Fc_4 : FuncId → Option Ct := addC 122 ct_gcd C_Fc_3
theorem C_Fc_4_ok : COk Try.prog C_Fc_4 := addC_ok C_Fc_3_ok sat_gcd
def ann_l02Gcd_0 : LAnn := { sameS := [], modS := [0, 1], sameH := [], modH := [], base := 900000, nilE := [], nilB := [], G := fun
  | ⟨[], [], [.int .u64 a, .int .u64 b], []⟩ => some (.p (0 ≤ a ∧ 0 ≤ b), .leaf (.exit 0) [.int .u64 (Int.gcd a b : Int), .int .u64 0] [])
  | _ => none }
def ct_l02Gcd : Ct := ctOf [.v (.int .u64), .v (.int .u64)] (fun ((a : Int), (b : Int), _) => .p (0 ≤ a ∧ 0 ≤ b)) (fun ((a : Int), (b : Int), _) => .int .u64 (Int.gcd a b : Int))
set_option maxHeartbeats 1000000 in
theorem loop_l02Gcd_0 : LoopSat Try.prog Try.f104.ntmps (loopAt Try.f104 0) ann_l02Gcd_0 := by
  refine loopSat_of (C := C_Fc_4) (L := (addL (firstId (loopAt Try.f104 0)) ann_l02Gcd_0 noL)) (wr := false) mixedOk C_Fc_4_ok (loopsIn0 (by kernel_rfl)) (fun d => match d.vals with | [_, .int _ b] => b.toNat | _ => 0) fun d p t hG hp => ?_
  simp only [ann_l02Gcd_0] at hG
  split at hG
  rotate_left
  · simp at hG
  rename_i a b
  simp only [Option.some.injEq, Prod.mk.injEq] at hG
  obtain ⟨rfl, rfl⟩ := hG
  have htree : exRound Try.prog C_Fc_4 false (addL (firstId (loopAt Try.f104 0)) ann_l02Gcd_0 noL) Try.f104.ntmps ann_l02Gcd_0 (loopAt Try.f104 0) ⟨[], [], [.int .u64 a, .int .u64 b], []⟩ = .ite (decide ((0 : Int) < b)) (.need (b ≠ (0 : Int)) (.leaf (.normal, ⟨[], [], [.int .u64 (b), .int .u64 (a.tmod b)], []⟩))) (.leaf ((.exit 0), ⟨[], [], [.int .u64 (a), .int .u64 (b)], []⟩)) := by kernel_rfl
  rw [htree]
  clear htree
  replace hp : 0 ≤ a ∧ 0 ≤ b := hp
  have h1 := Int.tmod_nonneg (a := a) b hp.1
  have h2 := Int.tmod_lt_of_pos (b := b) a
  simp only [Tree.ok, tyd_inj, packAV, AV.same, AV.same.sameL, encV, encS, enc, inK, Nd.ok, List.headD_cons, List.cons_append, List.nil_append, List.append_nil, true_and, and_true, Bool.true_and, Bool.and_true, loop_next, weakBs_nil, weakBs_cons, weakB_self, weakB_row, weakB_int, weakL_nil, weakL_unk, weakL_guess, isRow_own, isRow_unk, weakL_int, weakL_bool, weakL_str, weakL_own, weakL_view, weakL_nilS, noRow_int, noRow_bool, own_inj, LTree.val, cond_true, cond_false, Prod.mk.injEq, List.cons.injEq, AV.int.injEq, AV.bool.injEq, AV.str.injEq, AV.agg.injEq, ann_l02Gcd_0, decide_eq_true_eq, decide_eq_false_iff_not]
  refine ⟨fun ha => ?_, fun ha => ?_⟩
  · exact ⟨by omega, by have := h2 (by omega); omega, ⟨hp.2, h1⟩, by rw [gcd_step]⟩
  · obtain rfl : b = 0 := by omega
    exact ⟨(gcd_stop a hp.1).symm, rfl⟩
theorem loops_l02Gcd : ∀ c, Try.f104.body = some c → LoopsOk Try.prog (addL (firstId (loopAt Try.f104 0)) ann_l02Gcd_0 noL) Try.f104.ntmps c := loopsN fun i hi ann h => by
  have hn : loopN Try.f104 = 1 := by kernel_rfl
  rw [hn] at hi
  exact match i, hi, h with
    | 0, _, h => (Option.some.inj ((show (addL (firstId (loopAt Try.f104 0)) ann_l02Gcd_0 noL) (firstId (loopAt Try.f104 0)) = some ann_l02Gcd_0 from by kernel_rfl).symm.trans h)) ▸ loop_l02Gcd_0
set_option maxHeartbeats 1000000 in
theorem sat_l02Gcd : Sat Try.prog 104 ct_l02Gcd := by
  refine sat_typed (C := C_Fc_4) (L := (addL (firstId (loopAt Try.f104 0)) ann_l02Gcd_0 noL)) (wr := false) mixedOk Try.func104 C_Fc_4_ok (loops_l02Gcd) (fun _ => by first | rfl | (simp [ownsOf, ownsOf.ownsL, enc, encV, encS])) fun x hp => ?_
  obtain ⟨(a : Int), (b : Int), _⟩ := x
  replace hp : 0 ≤ a ∧ 0 ≤ b := hp
  have htree : exFunc Try.prog C_Fc_4 false (addL (firstId (loopAt Try.f104 0)) ann_l02Gcd_0 noL) Try.f104 (encA [.v (.int .u64), .v (.int .u64)] (a, b, ())) = .need ((0 : Int) ≤ a ∧ (0 : Int) ≤ b) (.leaf [.int .u64 ((↑(a.gcd b) : Int))]) := by kernel_rfl
  refine (congrArg (Tree.ok _) htree).mpr ?_
  clear htree
  simp only [Tree.ok, tyd_inj, packAV, AV.same, AV.same.sameL, encV, encS, enc, inK, Nd.ok, List.headD_cons, List.cons_append, List.nil_append, List.append_nil, true_and, and_true, Bool.true_and, Bool.and_true]
  exact hp
def C_Fc_5 : FuncId → Option Ct := addC 104 ct_l02Gcd C_Fc_4
theorem C_Fc_5_ok : COk Try.prog C_Fc_5 := addC_ok C_Fc_4_ok sat_l02Gcd
theorem wrap_u (z : Int) : IntKind.wrap .u64 z = z % 18446744073709551616 := by simp [IntKind.wrap, IntKind.signed, IntKind.bits]
def ct_magnitude : Ct := ctOf [.v (.int .i64)] (fun ((n : Int), _) => .p (-9223372036854775808 ≤ n ∧ n ≤ 9223372036854775807)) (fun ((n : Int), _) => .int .u64 (n.natAbs : Int))
set_option maxHeartbeats 1000000 in
theorem sat_magnitude : Sat Try.prog 121 ct_magnitude := by
  refine sat_typed (C := C_Fc_5) (L := noL) (wr := true) mixedOk Try.func121 C_Fc_5_ok (loops0 (by kernel_rfl)) (fun _ => by first | rfl | (simp [ownsOf, ownsOf.ownsL, enc, encV, encS])) fun x hp => ?_
  obtain ⟨(n : Int), _⟩ := x
  replace hp : -9223372036854775808 ≤ n ∧ n ≤ 9223372036854775807 := hp
  have htree : exFunc Try.prog C_Fc_5 true noL Try.f121 (encA [.v (.int .i64)] (n, ())) = .ite (decide (n < (0 : Int))) (.leaf [.int .u64 (IntKind.u64.wrap ((0 : Int) - IntKind.u64.wrap n))]) (.leaf [.int .u64 (IntKind.u64.wrap n)]) := by kernel_rfl
  refine (congrArg (Tree.ok _) htree).mpr ?_
  clear htree
  simp only [Tree.ok, tyd_inj, packAV, AV.same, AV.same.sameL, encV, encS, enc, inK, Nd.ok, List.headD_cons, List.cons_append, List.nil_append, List.append_nil, true_and, and_true, Bool.true_and, Bool.and_true, wrap_u, decide_eq_true_eq, decide_eq_false_iff_not]
  omega
def C_Fc_6 : FuncId → Option Ct := addC 121 ct_magnitude C_Fc_5
theorem C_Fc_6_ok : COk Try.prog C_Fc_6 := addC_ok C_Fc_5_ok sat_magnitude
def ct_l02Size : Ct := ctOf [.v (.int .i64)] (fun ((n : Int), _) => .p (-9223372036854775808 ≤ n ∧ n ≤ 9223372036854775807)) (fun ((n : Int), _) => .int .u64 (n.natAbs : Int))
set_option maxHeartbeats 1000000 in
theorem sat_l02Size : Sat Try.prog 105 ct_l02Size := by
  refine sat_typed (C := C_Fc_6) (L := noL) (wr := false) mixedOk Try.func105 C_Fc_6_ok (loops0 (by kernel_rfl)) (fun _ => by first | rfl | (simp [ownsOf, ownsOf.ownsL, enc, encV, encS])) fun x hp => ?_
  obtain ⟨(n : Int), _⟩ := x
  replace hp : -9223372036854775808 ≤ n ∧ n ≤ 9223372036854775807 := hp
  have htree : exFunc Try.prog C_Fc_6 false noL Try.f105 (encA [.v (.int .i64)] (n, ())) = .ite (decide (n < (0 : Int))) (.need (inK IntKind.i64 (n + (1 : Int))) (.need (inK IntKind.i64 ((0 : Int) - (n + (1 : Int)))) (.need (inK IntKind.u64 ((0 : Int) - (n + (1 : Int)))) (.need (inK IntKind.u64 ((0 : Int) - (n + (1 : Int)) + (1 : Int))) (.leaf [.int .u64 ((0 : Int) - (n + (1 : Int)) + (1 : Int))]))))) (.need (inK IntKind.u64 n) (.leaf [.int .u64 (n)])) := by kernel_rfl
  refine (congrArg (Tree.ok _) htree).mpr ?_
  clear htree
  simp only [Tree.ok, tyd_inj, packAV, AV.same, AV.same.sameL, encV, encS, enc, inK, Nd.ok, List.headD_cons, List.cons_append, List.nil_append, List.append_nil, true_and, and_true, Bool.true_and, Bool.and_true]
  repeat' first | apply And.intro | intro _
  all_goals (simp only [decide_eq_true_eq, decide_eq_false_iff_not] at *; omega)
def C_Fc_7 : FuncId → Option Ct := addC 105 ct_l02Size C_Fc_6
theorem C_Fc_7_ok : COk Try.prog C_Fc_7 := addC_ok C_Fc_6_ok sat_l02Size
def okF (n d : Int) : Bool := inB d 1 1000000 && (inB n (-1000000000) 1000000000 && ((Int.gcd n d : Int) == 1))
theorem okF_bd {n d : Int} (h : okF n d = true) : (1 ≤ d ∧ d ≤ 1000000) ∧ (-1000000000 ≤ n ∧ n ≤ 1000000000) := by
  simp only [okF, Bool.and_eq_true, inB_iff] at h
  exact ⟨h.1, h.2.1⟩
def ct_isFrac : Ct := ctOf [.s tFrac] (fun _ => .tt) (fun (((n : Int), (d : Int)), _) => .bool (okF n d))
set_option maxHeartbeats 1000000 in
theorem sat_isFrac : Sat Try.prog 120 ct_isFrac := by
  refine sat_typed (C := C_Fc_7) (L := noL) (wr := false) mixedOk Try.func120 C_Fc_7_ok (loops0 (by kernel_rfl)) (fun _ => by first | rfl | (simp [ownsOf, ownsOf.ownsL, enc, encV, encS])) fun x hp => ?_
  obtain ⟨⟨(n : Int), (d : Int)⟩, _⟩ := x
  clear hp
  have htree : exFunc Try.prog C_Fc_7 false noL Try.f120 (encA [.s tFrac] ((n, d), ())) = .ite (inB d (1 : Int) (1000000 : Int)) (.ite (inB n (-1000000000 : Int) (1000000000 : Int)) (.need ((-9223372036854775808 : Int) ≤ n ∧ n ≤ (9223372036854775807 : Int)) (.need (inK IntKind.u64 d) (.need ((0 : Int) ≤ (↑n.natAbs : Int) ∧ (0 : Int) ≤ d) (.leaf [.bool ((↑((↑n.natAbs : Int).gcd d) : Int) == (1 : Int))])))) (.leaf [.lit false])) (.leaf [.lit false]) := by kernel_rfl
  refine (congrArg (Tree.ok _) htree).mpr ?_
  clear htree
  simp only [Tree.ok, tyd_inj, packAV, AV.same, AV.same.sameL, encV, encS, enc, inK, Nd.ok, List.headD_cons, List.cons_append, List.nil_append, List.append_nil, true_and, and_true, Bool.true_and, Bool.and_true, gcd_abs]
  repeat' first | apply And.intro | intro _
  all_goals grind [okF, inB]
def C_Fc_8 : FuncId → Option Ct := addC 120 ct_isFrac C_Fc_7
theorem C_Fc_8_ok : COk Try.prog C_Fc_8 := addC_ok C_Fc_7_ok sat_isFrac
def ct_l02Ok : Ct := ctOf [.s tFrac] (fun _ => .tt) (fun (((n : Int), (d : Int)), _) => .bool (okF n d))
set_option maxHeartbeats 1000000 in
theorem sat_l02Ok : Sat Try.prog 66 ct_l02Ok := by
  refine sat_typed (C := C_Fc_8) (L := noL) (wr := false) mixedOk Try.func66 C_Fc_8_ok (loops0 (by kernel_rfl)) (fun _ => by first | rfl | (simp [ownsOf, ownsOf.ownsL, enc, encV, encS])) fun x hp => ?_
  obtain ⟨⟨(n : Int), (d : Int)⟩, _⟩ := x
  clear hp
  have htree : exFunc Try.prog C_Fc_8 false noL Try.f66 (encA [.s tFrac] ((n, d), ())) = .ite (inB d (1 : Int) (1000000 : Int)) (.ite (inB n (-1000000000 : Int) (1000000000 : Int)) (.need ((-9223372036854775808 : Int) ≤ n ∧ n ≤ (9223372036854775807 : Int)) (.need (inK IntKind.u64 d) (.need ((0 : Int) ≤ (↑n.natAbs : Int) ∧ (0 : Int) ≤ d) (.leaf [.bool ((↑((↑n.natAbs : Int).gcd d) : Int) == (1 : Int))])))) (.leaf [.lit false])) (.leaf [.lit false]) := by kernel_rfl
  refine (congrArg (Tree.ok _) htree).mpr ?_
  clear htree
  simp only [Tree.ok, tyd_inj, packAV, AV.same, AV.same.sameL, encV, encS, enc, inK, Nd.ok, List.headD_cons, List.cons_append, List.nil_append, List.append_nil, true_and, and_true, Bool.true_and, Bool.and_true, gcd_abs]
  repeat' first | apply And.intro | intro _
  all_goals grind [okF, inB]
def C_Fc_9 : FuncId → Option Ct := addC 66 ct_l02Ok C_Fc_8
theorem C_Fc_9_ok : COk Try.prog C_Fc_9 := addC_ok C_Fc_8_ok sat_l02Ok
def mkF (n d : Int) : (Int × Int) × Int :=
  if d = 0 then ((0, 0), 1)
  else if 1000000000 < (n.natAbs : Int) / (Int.gcd n d : Int) ∨ 1000000 < (d.natAbs : Int) / (Int.gcd n d : Int) then ((0, 0), 2)
  else ((if (decide (n < 0) != decide (d < 0)) = true then -((n.natAbs : Int) / (Int.gcd n d : Int)) else (n.natAbs : Int) / (Int.gcd n d : Int), (d.natAbs : Int) / (Int.gcd n d : Int)), 0)
theorem mkF_pos (n d : Int) (h : ¬ d = 0) : mkF n d = if 1000000000 < (n.natAbs : Int) / (Int.gcd n d : Int) ∨ 1000000 < (d.natAbs : Int) / (Int.gcd n d : Int) then ((0, 0), 2)
  else ((if (decide (n < 0) != decide (d < 0)) = true then -((n.natAbs : Int) / (Int.gcd n d : Int)) else (n.natAbs : Int) / (Int.gcd n d : Int), (d.natAbs : Int) / (Int.gcd n d : Int)), 0) := by
  unfold mkF; rw [if_neg h]
theorem gcd_pos {n d : Int} (h : d ≠ 0) : 1 ≤ (Int.gcd n d : Int) := by
  have : 0 < Int.gcd n d := Nat.gcd_pos_of_pos_right _ (by omega)
  omega
theorem div_bd (x g : Int) (h0 : 0 ≤ x) (h1 : 1 ≤ g) : 0 ≤ x / g ∧ x / g ≤ x := ⟨Int.ediv_nonneg h0 (by omega), Int.ediv_le_self g h0⟩
def ct_iMakeFrac : Ct := ctOf [.v (.int .i64), .v (.int .i64)] (fun ((n : Int), (d : Int), _) => .p ((-9223372036854775808 ≤ n ∧ n ≤ 9223372036854775807) ∧ (-9223372036854775808 ≤ d ∧ d ≤ 9223372036854775807))) (fun ((n : Int), (d : Int), _) => .tup [.agg (enc tFrac (mkF n d).1), .int .i64 (mkF n d).2])
set_option maxHeartbeats 1000000 in
theorem sat_iMakeFrac : Sat Try.prog 97 ct_iMakeFrac := by
  refine sat_typed (C := C_Fc_9) (L := noL) (wr := false) mixedOk Try.func97 C_Fc_9_ok (loops0 (by kernel_rfl)) (fun _ => by first | rfl | (simp [ownsOf, ownsOf.ownsL, enc, encV, encS])) fun x hp => ?_
  obtain ⟨(n : Int), (d : Int), _⟩ := x
  replace hp : (-9223372036854775808 ≤ n ∧ n ≤ 9223372036854775807) ∧ (-9223372036854775808 ≤ d ∧ d ≤ 9223372036854775807) := hp
  have htree : exFunc Try.prog C_Fc_9 false noL Try.f97 (encA [.v (.int .i64), .v (.int .i64)] (n, d, ())) = .ite (d == (0 : Int)) (.leaf [.agg [.int .i64 ((0 : Int)), .int .i64 ((0 : Int))], .int .i64 ((1 : Int))]) (.need ((-9223372036854775808 : Int) ≤ n ∧ n ≤ (9223372036854775807 : Int)) (.need ((-9223372036854775808 : Int) ≤ d ∧ d ≤ (9223372036854775807 : Int)) (.need ((0 : Int) ≤ (↑n.natAbs : Int) ∧ (0 : Int) ≤ (↑d.natAbs : Int)) (.need ((↑((↑n.natAbs : Int).gcd (↑d.natAbs : Int)) : Int) ≠ (0 : Int) ∧ inK IntKind.u64 ((↑n.natAbs : Int).tdiv (↑((↑n.natAbs : Int).gcd (↑d.natAbs : Int)) : Int))) (.need ((↑((↑n.natAbs : Int).gcd (↑d.natAbs : Int)) : Int) ≠ (0 : Int) ∧ inK IntKind.u64 ((↑d.natAbs : Int).tdiv (↑((↑n.natAbs : Int).gcd (↑d.natAbs : Int)) : Int))) (.ite (decide ((1000000000 : Int) < (↑n.natAbs : Int).tdiv (↑((↑n.natAbs : Int).gcd (↑d.natAbs : Int)) : Int))) (.leaf [.agg [.int .i64 ((0 : Int)), .int .i64 ((0 : Int))], .int .i64 ((2 : Int))]) (.ite (decide ((1000000 : Int) < (↑d.natAbs : Int).tdiv (↑((↑n.natAbs : Int).gcd (↑d.natAbs : Int)) : Int))) (.leaf [.agg [.int .i64 ((0 : Int)), .int .i64 ((0 : Int))], .int .i64 ((2 : Int))]) (.need (inK IntKind.i64 ((↑n.natAbs : Int).tdiv (↑((↑n.natAbs : Int).gcd (↑d.natAbs : Int)) : Int))) (.need (inK IntKind.i64 ((↑d.natAbs : Int).tdiv (↑((↑n.natAbs : Int).gcd (↑d.natAbs : Int)) : Int))) (.ite (!decide (n < (0 : Int)) == decide (d < (0 : Int))) (.need (inK IntKind.i64 ((0 : Int) - (↑n.natAbs : Int).tdiv (↑((↑n.natAbs : Int).gcd (↑d.natAbs : Int)) : Int))) (.leaf [.agg [.int .i64 ((0 : Int) - (↑n.natAbs : Int).tdiv (↑((↑n.natAbs : Int).gcd (↑d.natAbs : Int)) : Int)), .int .i64 ((↑d.natAbs : Int).tdiv (↑((↑n.natAbs : Int).gcd (↑d.natAbs : Int)) : Int))], .int .i64 ((0 : Int))])) (.leaf [.agg [.int .i64 ((↑n.natAbs : Int).tdiv (↑((↑n.natAbs : Int).gcd (↑d.natAbs : Int)) : Int)), .int .i64 ((↑d.natAbs : Int).tdiv (↑((↑n.natAbs : Int).gcd (↑d.natAbs : Int)) : Int))], .int .i64 ((0 : Int))]))))))))))) := by kernel_rfl
  refine (congrArg (Tree.ok _) htree).mpr ?_
  clear htree
  simp only [Tree.ok, tyd_inj, packAV, AV.same, AV.same.sameL, encV, encS, enc, inK, Nd.ok, List.headD_cons, List.cons_append, List.nil_append, List.append_nil, true_and, and_true, Bool.true_and, Bool.and_true, gcd_abs, gcd_abs2, Int.tdiv_eq_ediv_of_nonneg (show (0 : Int) ≤ (n.natAbs : Int) by omega), Int.tdiv_eq_ediv_of_nonneg (show (0 : Int) ≤ (d.natAbs : Int) by omega)]
  by_cases hd : d = 0
  · subst hd
    simp [mkF]
  · have g1 := gcd_pos (n := n) hd
    have b1 := div_bd (n.natAbs : Int) _ (by omega) g1
    have b2 := div_bd (d.natAbs : Int) _ (by omega) g1
    have hm := mkF_pos n d hd
    rw [hm]
    clear hm
    generalize (n.natAbs : Int) / (Int.gcd n d : Int) = q1 at *
    generalize (d.natAbs : Int) / (Int.gcd n d : Int) = q2 at *
    generalize (Int.gcd n d : Int) = g at *
    simp only [beq_iff_eq, beq_eq_false_iff_ne, ne_eq, decide_eq_true_eq, decide_eq_false_iff_not]
    repeat' first | apply And.intro | intro _
    all_goals first | omega | grind
def C_Fc_10 : FuncId → Option Ct := addC 97 ct_iMakeFrac C_Fc_9
theorem C_Fc_10_ok : COk Try.prog C_Fc_10 := addC_ok C_Fc_9_ok sat_iMakeFrac
def ct_sMakeFrac : Ct := ctOf [.v (.int .i64), .v (.int .i64)] (fun ((n : Int), (d : Int), _) => .p ((-9223372036854775808 ≤ n ∧ n ≤ 9223372036854775807) ∧ (-9223372036854775808 ≤ d ∧ d ≤ 9223372036854775807))) (fun ((n : Int), (d : Int), _) => .tup [.agg (enc tFrac (mkF n d).1), .int .i64 (mkF n d).2])
set_option maxHeartbeats 1000000 in
theorem sat_sMakeFrac : Sat Try.prog 88 ct_sMakeFrac := by
  refine sat_typed (C := C_Fc_10) (L := noL) (wr := false) mixedOk Try.func88 C_Fc_10_ok (loops0 (by kernel_rfl)) (fun _ => by first | rfl | (simp [ownsOf, ownsOf.ownsL, enc, encV, encS])) fun x hp => ?_
  obtain ⟨(n : Int), (d : Int), _⟩ := x
  replace hp : (-9223372036854775808 ≤ n ∧ n ≤ 9223372036854775807) ∧ (-9223372036854775808 ≤ d ∧ d ≤ 9223372036854775807) := hp
  have htree : exFunc Try.prog C_Fc_10 false noL Try.f88 (encA [.v (.int .i64), .v (.int .i64)] (n, d, ())) = .ite (d == (0 : Int)) (.leaf [.agg [.int .i64 ((0 : Int)), .int .i64 ((0 : Int))], .int .i64 ((1 : Int))]) (.need ((-9223372036854775808 : Int) ≤ n ∧ n ≤ (9223372036854775807 : Int)) (.need ((-9223372036854775808 : Int) ≤ d ∧ d ≤ (9223372036854775807 : Int)) (.need ((0 : Int) ≤ (↑n.natAbs : Int) ∧ (0 : Int) ≤ (↑d.natAbs : Int)) (.need ((↑((↑n.natAbs : Int).gcd (↑d.natAbs : Int)) : Int) ≠ (0 : Int) ∧ inK IntKind.u64 ((↑n.natAbs : Int).tdiv (↑((↑n.natAbs : Int).gcd (↑d.natAbs : Int)) : Int))) (.need ((↑((↑n.natAbs : Int).gcd (↑d.natAbs : Int)) : Int) ≠ (0 : Int) ∧ inK IntKind.u64 ((↑d.natAbs : Int).tdiv (↑((↑n.natAbs : Int).gcd (↑d.natAbs : Int)) : Int))) (.ite (decide ((1000000000 : Int) < (↑n.natAbs : Int).tdiv (↑((↑n.natAbs : Int).gcd (↑d.natAbs : Int)) : Int))) (.leaf [.agg [.int .i64 ((0 : Int)), .int .i64 ((0 : Int))], .int .i64 ((2 : Int))]) (.ite (decide ((1000000 : Int) < (↑d.natAbs : Int).tdiv (↑((↑n.natAbs : Int).gcd (↑d.natAbs : Int)) : Int))) (.leaf [.agg [.int .i64 ((0 : Int)), .int .i64 ((0 : Int))], .int .i64 ((2 : Int))]) (.need (inK IntKind.i64 ((↑n.natAbs : Int).tdiv (↑((↑n.natAbs : Int).gcd (↑d.natAbs : Int)) : Int))) (.need (inK IntKind.i64 ((↑d.natAbs : Int).tdiv (↑((↑n.natAbs : Int).gcd (↑d.natAbs : Int)) : Int))) (.ite (!decide (n < (0 : Int)) == decide (d < (0 : Int))) (.need (inK IntKind.i64 ((0 : Int) - (↑n.natAbs : Int).tdiv (↑((↑n.natAbs : Int).gcd (↑d.natAbs : Int)) : Int))) (.leaf [.agg [.int .i64 ((0 : Int) - (↑n.natAbs : Int).tdiv (↑((↑n.natAbs : Int).gcd (↑d.natAbs : Int)) : Int)), .int .i64 ((↑d.natAbs : Int).tdiv (↑((↑n.natAbs : Int).gcd (↑d.natAbs : Int)) : Int))], .int .i64 ((0 : Int))])) (.leaf [.agg [.int .i64 ((↑n.natAbs : Int).tdiv (↑((↑n.natAbs : Int).gcd (↑d.natAbs : Int)) : Int)), .int .i64 ((↑d.natAbs : Int).tdiv (↑((↑n.natAbs : Int).gcd (↑d.natAbs : Int)) : Int))], .int .i64 ((0 : Int))]))))))))))) := by kernel_rfl
  refine (congrArg (Tree.ok _) htree).mpr ?_
  clear htree
  simp only [Tree.ok, tyd_inj, packAV, AV.same, AV.same.sameL, encV, encS, enc, inK, Nd.ok, List.headD_cons, List.cons_append, List.nil_append, List.append_nil, true_and, and_true, Bool.true_and, Bool.and_true, gcd_abs, gcd_abs2, Int.tdiv_eq_ediv_of_nonneg (show (0 : Int) ≤ (n.natAbs : Int) by omega), Int.tdiv_eq_ediv_of_nonneg (show (0 : Int) ≤ (d.natAbs : Int) by omega)]
  by_cases hd : d = 0
  · subst hd
    simp [mkF]
  · have g1 := gcd_pos (n := n) hd
    have b1 := div_bd (n.natAbs : Int) _ (by omega) g1
    have b2 := div_bd (d.natAbs : Int) _ (by omega) g1
    have hm := mkF_pos n d hd
    rw [hm]
    clear hm
    generalize (n.natAbs : Int) / (Int.gcd n d : Int) = q1 at *
    generalize (d.natAbs : Int) / (Int.gcd n d : Int) = q2 at *
    generalize (Int.gcd n d : Int) = g at *
    simp only [beq_iff_eq, beq_eq_false_iff_ne, ne_eq, decide_eq_true_eq, decide_eq_false_iff_not]
    repeat' first | apply And.intro | intro _
    all_goals first | omega | grind
def C_Fc_11 : FuncId → Option Ct := addC 88 ct_sMakeFrac C_Fc_10
theorem C_Fc_11_ok : COk Try.prog C_Fc_11 := addC_ok C_Fc_10_ok sat_sMakeFrac
theorem mul_bd {a b : Int} (ha : -1000000000 ≤ a ∧ a ≤ 1000000000) (hb : 1 ≤ b ∧ b ≤ 1000000) : -1000000000000000 ≤ a * b ∧ a * b ≤ 1000000000000000 := by
  have h1 : a * b ≤ 1000000000 * b := Int.mul_le_mul_of_nonneg_right ha.2 (by omega)
  have h2 : -1000000000 * b ≤ a * b := Int.mul_le_mul_of_nonneg_right ha.1 (by omega)
  omega
theorem mul_bd2 {a b : Int} (ha : 1 ≤ a ∧ a ≤ 1000000) (hb : 1 ≤ b ∧ b ≤ 1000000) : 1 ≤ a * b ∧ a * b ≤ 1000000000000 := by
  have h1 : a * b ≤ 1000000 * b := Int.mul_le_mul_of_nonneg_right ha.2 (by omega)
  have h2 : 1 * b ≤ a * b := Int.mul_le_mul_of_nonneg_right ha.1 (by omega)
  omega
theorem mul_bd3 {a b : Int} (ha : -1000000000 ≤ a ∧ a ≤ 1000000000) (hb : -1000000000 ≤ b ∧ b ≤ 1000000000) : -1000000000000000000 ≤ a * b ∧ a * b ≤ 1000000000000000000 := by
  have h : (a * b).natAbs ≤ 1000000000 * 1000000000 := by rw [Int.natAbs_mul]; exact Nat.mul_le_mul (by omega) (by omega)
  omega
def okFs (xs : List tFrac.den) : Bool := xs.all fun x => okF x.1 x.2
theorem okFs_drop (xs : List tFrac.den) (i : Nat) (z : tFrac.den) (h : i < xs.length) : okFs (xs.drop i) = (okF (xs.getD i z).1 (xs.getD i z).2 && okFs (xs.drop (i + 1))) := by
  rw [getD_lt _ _ _ h, List.drop_eq_getElem_cons h]
  rfl
def ann_areFracs_0 : LAnn := { sameS := [0, 5, 6], modS := [2, 7], sameH := [], modH := [], base := 900000, nilE := [], nilB := [], G := fun
  | ⟨[.view (.pair (.int .i64) (.int .i64)) zs, .view (.pair (.int .i64) (.int .i64)) xs, .int .i64 n], [], [.bool r, .int .i64 i], []⟩ => some (.p ((0 ≤ i ∧ i ≤ n) ∧ n = (xs.length : Int) ∧ n ≤ 9223372036854775807), .ite (okFs (xs.drop i.toNat)) (.leaf (.exit 0) [.bool r, .int .i64 n] []) (.leaf .ret [.bool false, .unk] []))
  | _ => none }
def ct_areFracs : Ct := ctOf [.v qFrac] (fun ((xs : List tFrac.den), _) => .p ((xs.length : Int) ≤ 9223372036854775807)) (fun ((xs : List tFrac.den), _) => .bool (okFs xs))
set_option maxHeartbeats 1000000 in
theorem loop_areFracs_0 : LoopSat Try.prog Try.f96.ntmps (loopAt Try.f96 0) ann_areFracs_0 := by
  refine loopSat_of (C := C_Fc_11) (L := (addL (firstId (loopAt Try.f96 0)) ann_areFracs_0 noL)) (wr := false) mixedOk C_Fc_11_ok (loopsIn0 (by kernel_rfl)) (fun d => match d.same, d.vals with | [_, _, .int _ n], [_, .int _ i] => (n - i).toNat | _, _ => 0) fun d p t hG hp => ?_
  simp only [ann_areFracs_0] at hG
  split at hG
  rotate_left
  · simp at hG
  rename_i zs xs n r i
  simp only [Option.some.injEq, Prod.mk.injEq] at hG
  obtain ⟨rfl, rfl⟩ := hG
  have htree : exRound Try.prog C_Fc_11 false (addL (firstId (loopAt Try.f96 0)) ann_areFracs_0 noL) Try.f96.ntmps ann_areFracs_0 (loopAt Try.f96 0) ⟨[.view tFrac zs, .view tFrac xs, .int .i64 n], [], [.bool r, .int .i64 i], []⟩ = .ite (decide (i < n)) (.need ((0 : Int) ≤ i ∧ i < (↑xs.length : Int)) (.ite (!okF (getT tFrac xs i).fst (getT tFrac xs i).snd) (.leaf (.ret, ⟨[.view (I64.pair I64) (zs), .view (I64.pair I64) (xs), .int .i64 (n)], [], [.bool (false), .int .i64 (i)], []⟩)) (.need (inK IntKind.i64 (i + (1 : Int))) (.leaf (.normal, ⟨[.view (I64.pair I64) (zs), .view (I64.pair I64) (xs), .int .i64 (n)], [], [.bool (r), .int .i64 (i + (1 : Int))], []⟩))))) (.leaf ((.exit 0), ⟨[.view (I64.pair I64) (zs), .view (I64.pair I64) (xs), .int .i64 (n)], [], [.bool (r), .int .i64 (i)], []⟩)) := by kernel_rfl
  rw [htree]
  clear htree
  replace hp : (0 ≤ i ∧ i ≤ n) ∧ n = (xs.length : Int) ∧ n ≤ 9223372036854775807 := hp
  simp only [Tree.ok, tyd_inj, packAV, AV.same, AV.same.sameL, encV, encS, enc, inK, Nd.ok, List.headD_cons, List.cons_append, List.nil_append, List.append_nil, true_and, and_true, Bool.true_and, Bool.and_true, loop_next, weakBs_nil, weakBs_cons, weakB_self, weakB_row, weakB_int, weakL_nil, weakL_unk, weakL_guess, isRow_own, isRow_unk, weakL_int, weakL_bool, weakL_str, weakL_own, weakL_view, weakL_nilS, noRow_int, noRow_bool, own_inj, LTree.val, cond_true, cond_false, Prod.mk.injEq, List.cons.injEq, AV.int.injEq, AV.bool.injEq, AV.str.injEq, AV.agg.injEq, ann_areFracs_0, decide_eq_true_eq, decide_eq_false_iff_not, getT]
  refine ⟨fun ha => ?_, fun ha => ?_⟩
  · have h1 := okFs_drop xs i.toNat tFrac.zero (by omega)
    rw [show (i + 1).toNat = i.toNat + 1 by omega, h1]
    refine ⟨by omega, fun hc => ?_, fun hc => ?_⟩
    · simp only [Bool.not_eq_true'] at hc
      rw [hc]
      simp [Tree.ok, tyd_inj, packAV, AV.same, AV.same.sameL, encV, encS, enc, inK, Nd.ok, List.headD_cons, List.cons_append, List.nil_append, List.append_nil, true_and, and_true, Bool.true_and, Bool.and_true, loop_next, weakBs_nil, weakBs_cons, weakB_self, weakB_row, weakB_int, weakL_nil, weakL_unk, weakL_guess, isRow_own, isRow_unk, weakL_int, weakL_bool, weakL_str, weakL_own, weakL_view, weakL_nilS, noRow_int, noRow_bool, own_inj, LTree.val, cond_true, cond_false, Prod.mk.injEq, List.cons.injEq, AV.int.injEq, AV.bool.injEq, AV.str.injEq, AV.agg.injEq]
    · simp only [Bool.not_eq_false'] at hc
      rw [hc]
      simp only [Bool.true_and]
      exact ⟨by omega, by omega, by omega, trivial⟩
  · have h1 : i.toNat = xs.length := by omega
    rw [h1, List.drop_length]
    simp [Tree.ok, tyd_inj, packAV, AV.same, AV.same.sameL, encV, encS, enc, inK, Nd.ok, List.headD_cons, List.cons_append, List.nil_append, List.append_nil, true_and, and_true, Bool.true_and, Bool.and_true, loop_next, weakBs_nil, weakBs_cons, weakB_self, weakB_row, weakB_int, weakL_nil, weakL_unk, weakL_guess, isRow_own, isRow_unk, weakL_int, weakL_bool, weakL_str, weakL_own, weakL_view, weakL_nilS, noRow_int, noRow_bool, own_inj, LTree.val, cond_true, cond_false, Prod.mk.injEq, List.cons.injEq, AV.int.injEq, AV.bool.injEq, AV.str.injEq, AV.agg.injEq, okFs]
    omega
theorem loops_areFracs : ∀ c, Try.f96.body = some c → LoopsOk Try.prog (addL (firstId (loopAt Try.f96 0)) ann_areFracs_0 noL) Try.f96.ntmps c := loopsN fun i hi ann h => by
  have hn : loopN Try.f96 = 1 := by kernel_rfl
  rw [hn] at hi
  exact match i, hi, h with
    | 0, _, h => (Option.some.inj ((show (addL (firstId (loopAt Try.f96 0)) ann_areFracs_0 noL) (firstId (loopAt Try.f96 0)) = some ann_areFracs_0 from by kernel_rfl).symm.trans h)) ▸ loop_areFracs_0
set_option maxHeartbeats 1000000 in
theorem sat_areFracs : Sat Try.prog 96 ct_areFracs := by
  refine sat_typed (C := C_Fc_11) (L := (addL (firstId (loopAt Try.f96 0)) ann_areFracs_0 noL)) (wr := false) mixedOk Try.func96 C_Fc_11_ok (loops_areFracs) (fun _ => by first | rfl | (simp [ownsOf, ownsOf.ownsL, enc, encV, encS])) fun x hp => ?_
  obtain ⟨(xs : List tFrac.den), _⟩ := x
  replace hp : (xs.length : Int) ≤ 9223372036854775807 := hp
  have htree : exFunc Try.prog C_Fc_11 false (addL (firstId (loopAt Try.f96 0)) ann_areFracs_0 noL) Try.f96 (encA [.v qFrac] (xs, ())) = .need (((0 : Int) ≤ (0 : Int) ∧ (0 : Int) ≤ (↑xs.length : Int)) ∧ (↑xs.length : Int) = (↑xs.length : Int) ∧ (↑xs.length : Int) ≤ (9223372036854775807 : Int)) (.ite (okFs (List.drop (Int.toNat (0 : Int)) xs)) (.leaf [.lit true]) (.leaf [.bool (false)])) := by kernel_rfl
  refine (congrArg (Tree.ok _) htree).mpr ?_
  clear htree
  simp only [Tree.ok, tyd_inj, packAV, AV.same, AV.same.sameL, encV, encS, enc, inK, Nd.ok, List.headD_cons, List.cons_append, List.nil_append, List.append_nil, true_and, and_true, Bool.true_and, Bool.and_true, Int.toNat_zero, List.drop_zero]
  repeat' first | apply And.intro | intro _
  all_goals first | omega | simp_all
def C_Fc_12 : FuncId → Option Ct := addC 96 ct_areFracs C_Fc_11
theorem C_Fc_12_ok : COk Try.prog C_Fc_12 := addC_ok C_Fc_11_ok sat_areFracs

def C_Fc : FuncId → Option Ct := C_Fc_12
theorem C_Fc_ok : COk Try.prog C_Fc := C_Fc_12_ok
end Go.Proofs.Ytemlpimibhijoaa
