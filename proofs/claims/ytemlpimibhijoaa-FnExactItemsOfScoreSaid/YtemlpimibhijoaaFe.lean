/- Contracts: valid scores, of the program and the reference. Conditions: as each says. -/
import Derived.Test.YtemlpimibhijoaaFd
set_option linter.unusedSimpArgs false
set_option linter.unusedVariables false
namespace Go.Proofs.Ytemlpimibhijoaa
open Go.RowKit Sx
set_option maxRecDepth 100000
set_option maxHeartbeats 1000000
theorem noteF_bd {x : tNote.den} (h : noteF x = true) : ((1 ≤ x.1.2 ∧ x.1.2 ≤ 1000000) ∧ (-1000000000 ≤ x.1.1 ∧ x.1.1 ≤ 1000000000)) ∧ (0 ≤ x.2.2.1 ∧ x.2.2.1 ≤ 127) ∧ (0 ≤ x.2.2.2.2 ∧ x.2.2.2.2 ≤ 15) := by
  simp only [noteF, beatF, Bool.and_eq_true, inB_iff] at h
  exact ⟨okF_bd h.1.1, h.2.2.2.2.1, h.2.2.2.2.2.2⟩
def cmpN (x y : tNote.den) : Int := if cmpF x.1.1 x.1.2 y.1.1 y.1.2 ≠ 0 then cmpF x.1.1 x.1.2 y.1.1 y.1.2 else if x.2.2.2.2 ≠ y.2.2.2.2 then x.2.2.2.2 - y.2.2.2.2 else x.2.2.1 - y.2.2.1
theorem cmpF_bd (a b c d : Int) : -1 ≤ cmpF a b c d ∧ cmpF a b c d ≤ 1 := by
  unfold cmpF
  repeat' split
  all_goals omega
def ct_compareNotes : Ct := ctOf [.s tNote, .s tNote] (fun ((x : tNote.den), (y : tNote.den), _) => .p (noteF x = true ∧ noteF y = true)) (fun ((x : tNote.den), (y : tNote.den), _) => .int .i64 (cmpN x y))
set_option maxHeartbeats 1000000 in
theorem sat_compareNotes : Sat Try.prog 94 ct_compareNotes := by
  refine sat_typed (C := C_Fd) (L := noL) (wr := false) mixedOk Try.func94 C_Fd_ok (loops0 (by kernel_rfl)) (fun _ => by first | rfl | (simp [ownsOf, ownsOf.ownsL, enc, encV, encS])) fun x hp => ?_
  obtain ⟨(x : tNote.den), (y : tNote.den), _⟩ := x
  replace hp : noteF x = true ∧ noteF y = true := hp
  have htree : exFunc Try.prog C_Fd false noL Try.f94 (encA [.s tNote, .s tNote] (x, y, ())) = .need ((((1 : Int) ≤ x.fst.snd ∧ x.fst.snd ≤ (1000000 : Int)) ∧ (-1000000000 : Int) ≤ x.fst.fst ∧ x.fst.fst ≤ (1000000000 : Int)) ∧ ((1 : Int) ≤ y.fst.snd ∧ y.fst.snd ≤ (1000000 : Int)) ∧ (-1000000000 : Int) ≤ y.fst.fst ∧ y.fst.fst ≤ (1000000000 : Int)) (.ite (cmpF x.fst.fst x.fst.snd y.fst.fst y.fst.snd != (0 : Int)) (.leaf [.int .i64 (cmpF x.fst.fst x.fst.snd y.fst.fst y.fst.snd)]) (.ite (x.snd.snd.snd.snd != y.snd.snd.snd.snd) (.need (inK IntKind.i64 (x.snd.snd.snd.snd - y.snd.snd.snd.snd)) (.leaf [.int .i64 (x.snd.snd.snd.snd - y.snd.snd.snd.snd)])) (.need (inK IntKind.i64 (x.snd.snd.fst - y.snd.snd.fst)) (.leaf [.int .i64 (x.snd.snd.fst - y.snd.snd.fst)])))) := by kernel_rfl
  refine (congrArg (Tree.ok _) htree).mpr ?_
  clear htree
  have h1 := noteF_bd hp.1
  have h2 := noteF_bd hp.2
  have h3 := cmpF_bd x.1.1 x.1.2 y.1.1 y.1.2
  simp only [Tree.ok, tyd_inj, packAV, AV.same, AV.same.sameL, encV, encS, enc, inK, Nd.ok, List.headD_cons, List.cons_append, List.nil_append, List.append_nil, true_and, and_true, Bool.true_and, Bool.and_true, cmpN]
  repeat' first | apply And.intro | intro _
  all_goals first | omega | grind
def C_Fe_1 : FuncId → Option Ct := addC 94 ct_compareNotes C_Fd
theorem C_Fe_1_ok : COk Try.prog C_Fe_1 := addC_ok C_Fd_ok sat_compareNotes
def ct_l18Order : Ct := ctOf [.p tNote, .p tNote] (fun ((x : tNote.den), (y : tNote.den), _) => .p (noteF x = true ∧ noteF y = true)) (fun ((x : tNote.den), (y : tNote.den), _) => .int .i64 (cmpN x y))
set_option maxHeartbeats 1000000 in
theorem sat_l18Order : Sat Try.prog 87 ct_l18Order := by
  refine sat_typed (C := C_Fe_1) (L := noL) (wr := false) mixedOk Try.func87 C_Fe_1_ok (loops0 (by kernel_rfl)) (fun _ => by first | rfl | (simp [ownsOf, ownsOf.ownsL, enc, encV, encS])) fun x hp => ?_
  obtain ⟨(x : tNote.den), (y : tNote.den), _⟩ := x
  replace hp : noteF x = true ∧ noteF y = true := hp
  have htree : exFunc Try.prog C_Fe_1 false noL Try.f87 (encA [.p tNote, .p tNote] (x, y, ())) = .need ((((1 : Int) ≤ x.fst.snd ∧ x.fst.snd ≤ (1000000 : Int)) ∧ (-1000000000 : Int) ≤ x.fst.fst ∧ x.fst.fst ≤ (1000000000 : Int)) ∧ ((1 : Int) ≤ y.fst.snd ∧ y.fst.snd ≤ (1000000 : Int)) ∧ (-1000000000 : Int) ≤ y.fst.fst ∧ y.fst.fst ≤ (1000000000 : Int)) (.ite (cmpF x.fst.fst x.fst.snd y.fst.fst y.fst.snd != (0 : Int)) (.leaf [.int .i64 (cmpF x.fst.fst x.fst.snd y.fst.fst y.fst.snd)]) (.ite (x.snd.snd.snd.snd != y.snd.snd.snd.snd) (.need (inK IntKind.i64 (x.snd.snd.snd.snd - y.snd.snd.snd.snd)) (.leaf [.int .i64 (x.snd.snd.snd.snd - y.snd.snd.snd.snd)])) (.need (inK IntKind.i64 (x.snd.snd.fst - y.snd.snd.fst)) (.leaf [.int .i64 (x.snd.snd.fst - y.snd.snd.fst)])))) := by kernel_rfl
  refine (congrArg (Tree.ok _) htree).mpr ?_
  clear htree
  have h1 := noteF_bd hp.1
  have h2 := noteF_bd hp.2
  have h3 := cmpF_bd x.1.1 x.1.2 y.1.1 y.1.2
  simp only [Tree.ok, tyd_inj, packAV, AV.same, AV.same.sameL, encV, encS, enc, inK, Nd.ok, List.headD_cons, List.cons_append, List.nil_append, List.append_nil, true_and, and_true, Bool.true_and, Bool.and_true, cmpN]
  repeat' first | apply And.intro | intro _
  all_goals first | omega | grind
def C_Fe_2 : FuncId → Option Ct := addC 87 ct_l18Order C_Fe_1
theorem C_Fe_2_ok : COk Try.prog C_Fe_2 := addC_ok C_Fe_1_ok sat_l18Order
def notesF (xs : List tNote.den) : Bool := xs.all noteF
theorem notesF_drop (xs : List tNote.den) (i : Nat) (z : tNote.den) (h : i < xs.length) : notesF (xs.drop i) = (noteF (xs.getD i z) && notesF (xs.drop (i + 1))) := by
  rw [getD_lt _ _ _ h, List.drop_eq_getElem_cons h]
  rfl
theorem notesF_get {xs : List tNote.den} (h : notesF xs = true) (i : Nat) (z : tNote.den) (hi : i < xs.length) : noteF (xs.getD i z) = true := by
  rw [getD_lt _ _ _ hi]
  exact List.all_eq_true.1 h _ (List.getElem_mem hi)
def sortF (xs : List tNote.den) : Nat → Nat → Bool
  | 0, _ => true
  | n + 1, i => decide (cmpN (xs.getD (i - 1) tNote.zero) (xs.getD i tNote.zero) < 0) && sortF xs n (i + 1)
def bothF (xs : List tNote.den) : Nat → Nat → Bool
  | 0, _ => true
  | n + 1, i => noteF (xs.getD i tNote.zero) && (decide (i = 0 ∨ cmpN (xs.getD (i - 1) tNote.zero) (xs.getD i tNote.zero) < 0) && bothF xs n (i + 1))
def scoreF (xs : List tNote.den) : Bool := decide (xs.length ≤ 60) && bothF xs xs.length 0
theorem sortF_go (xs : List tNote.den) (i : Nat) (h : i < xs.length) : sortF xs (xs.length - i) i = (decide (cmpN (xs.getD (i - 1) tNote.zero) (xs.getD i tNote.zero) < 0) && sortF xs (xs.length - (i + 1)) (i + 1)) := by
  rw [show xs.length - i = (xs.length - (i + 1)) + 1 by omega]; rfl
theorem bothF_go (xs : List tNote.den) (i : Nat) (h : i < xs.length) : bothF xs (xs.length - i) i = (noteF (xs.getD i tNote.zero) && (decide (i = 0 ∨ cmpN (xs.getD (i - 1) tNote.zero) (xs.getD i tNote.zero) < 0) && bothF xs (xs.length - (i + 1)) (i + 1))) := by
  rw [show xs.length - i = (xs.length - (i + 1)) + 1 by omega]; rfl
theorem both_split (xs : List tNote.den) : ∀ (n i : Nat), i + n = xs.length → 0 < i → bothF xs n i = (notesF (xs.drop i) && sortF xs n i)
  | 0, i, h, _ => by rw [show i = xs.length by omega, List.drop_length]; rfl
  | n + 1, i, h, h0 => by
    rw [notesF_drop xs i tNote.zero (by omega)]
    show (noteF _ && (decide _ && bothF xs n (i + 1))) = _
    rw [both_split xs n (i + 1) (by omega) (by omega)]
    show _ = (_ && _ && (decide _ && sortF xs n (i + 1)))
    rw [show decide (i = 0 ∨ cmpN (xs.getD (i - 1) tNote.zero) (xs.getD i tNote.zero) < 0) = decide (cmpN (xs.getD (i - 1) tNote.zero) (xs.getD i tNote.zero) < 0) from decide_eq_decide.2 ⟨fun h => h.resolve_left (by omega), .inr⟩]
    generalize noteF (xs.getD i tNote.zero) = b1
    generalize decide (cmpN (xs.getD (i - 1) tNote.zero) (xs.getD i tNote.zero) < 0) = b2
    generalize notesF (xs.drop (i + 1)) = b3
    generalize sortF xs n (i + 1) = b4
    cases b1 <;> cases b2 <;> cases b3 <;> cases b4 <;> rfl
theorem both_all (xs : List tNote.den) : bothF xs xs.length 0 = (notesF xs && sortF xs (xs.length - 1) 1) := by
  cases hl : xs.length with
  | zero => rw [List.eq_nil_of_length_eq_zero hl]; rfl
  | succ n =>
    have h1 := notesF_drop xs 0 tNote.zero (by omega)
    rw [List.drop_zero] at h1
    show (noteF _ && (decide _ && bothF xs n 1)) = _
    rw [both_split xs n 1 (by omega) (by omega), h1]
    simp [Bool.and_assoc]
def ann_areNotes_0 : LAnn := { sameS := [0, 5, 6], modS := [2, 7], sameH := [], modH := [], base := 900000, nilE := [], nilB := [], G := fun
  | ⟨[.view (.pair (.pair (.int .i64) (.int .i64)) (.pair (.pair (.int .i64) (.int .i64)) (.pair (.int .i64) (.pair (.int .i64) (.int .i64))))) zs, .view (.pair (.pair (.int .i64) (.int .i64)) (.pair (.pair (.int .i64) (.int .i64)) (.pair (.int .i64) (.pair (.int .i64) (.int .i64))))) xs, .int .i64 n], [], [.bool r, .int .i64 i], []⟩ => some (.p ((0 ≤ i ∧ i ≤ n) ∧ n = (xs.length : Int) ∧ n ≤ 9223372036854775807), .ite (notesF (xs.drop i.toNat)) (.leaf (.exit 0) [.bool r, .int .i64 n] []) (.leaf .ret [.bool false, .unk] []))
  | _ => none }
def ct_areNotes : Ct := ctOf [.v qNote] (fun ((xs : List tNote.den), _) => .p ((xs.length : Int) ≤ 9223372036854775807)) (fun ((xs : List tNote.den), _) => .bool (notesF xs))
set_option maxHeartbeats 1000000 in
theorem loop_areNotes_0 : LoopSat Try.prog Try.f93.ntmps (loopAt Try.f93 0) ann_areNotes_0 := by
  refine loopSat_of (C := C_Fe_2) (L := (addL (firstId (loopAt Try.f93 0)) ann_areNotes_0 noL)) (wr := false) mixedOk C_Fe_2_ok (loopsIn0 (by kernel_rfl)) (fun d => match d.same, d.vals with | [_, _, .int _ n], [_, .int _ i] => (n - i).toNat | _, _ => 0) fun d p t hG hp => ?_
  simp only [ann_areNotes_0] at hG
  split at hG
  rotate_left
  · simp at hG
  rename_i zs xs n r i
  simp only [Option.some.injEq, Prod.mk.injEq] at hG
  obtain ⟨rfl, rfl⟩ := hG
  have htree : exRound Try.prog C_Fe_2 false (addL (firstId (loopAt Try.f93 0)) ann_areNotes_0 noL) Try.f93.ntmps ann_areNotes_0 (loopAt Try.f93 0) ⟨[.view tNote zs, .view tNote xs, .int .i64 n], [], [.bool r, .int .i64 i], []⟩ = .ite (decide (i < n)) (.need ((0 : Int) ≤ i ∧ i < (↑xs.length : Int)) (.ite (!noteF (((getT tNote xs i).fst.fst, (getT tNote xs i).fst.snd), ((getT tNote xs i).snd.fst.fst, (getT tNote xs i).snd.fst.snd), (getT tNote xs i).snd.snd.fst, (getT tNote xs i).snd.snd.snd.fst, (getT tNote xs i).snd.snd.snd.snd)) (.leaf (.ret, ⟨[.view (tFrac.pair (tFrac.pair (I64.pair (I64.pair I64)))) (zs), .view (tFrac.pair (tFrac.pair (I64.pair (I64.pair I64)))) (xs), .int .i64 (n)], [], [.bool (false), .int .i64 (i)], []⟩)) (.need (inK IntKind.i64 (i + (1 : Int))) (.leaf (.normal, ⟨[.view (tFrac.pair (tFrac.pair (I64.pair (I64.pair I64)))) (zs), .view (tFrac.pair (tFrac.pair (I64.pair (I64.pair I64)))) (xs), .int .i64 (n)], [], [.bool (r), .int .i64 (i + (1 : Int))], []⟩))))) (.leaf ((.exit 0), ⟨[.view (tFrac.pair (tFrac.pair (I64.pair (I64.pair I64)))) (zs), .view (tFrac.pair (tFrac.pair (I64.pair (I64.pair I64)))) (xs), .int .i64 (n)], [], [.bool (r), .int .i64 (i)], []⟩)) := by kernel_rfl
  rw [htree]
  clear htree
  replace hp : (0 ≤ i ∧ i ≤ n) ∧ n = (xs.length : Int) ∧ n ≤ 9223372036854775807 := hp
  have hz : ∀ x : tNote.den, noteF ((x.1.1, x.1.2), (x.2.1.1, x.2.1.2), x.2.2.1, x.2.2.2.1, x.2.2.2.2) = noteF x := fun _ => rfl
  simp only [Tree.ok, tyd_inj, packAV, AV.same, AV.same.sameL, encV, encS, enc, inK, Nd.ok, List.headD_cons, List.cons_append, List.nil_append, List.append_nil, true_and, and_true, Bool.true_and, Bool.and_true, loop_next, weakBs_nil, weakBs_cons, weakB_self, weakB_row, weakB_int, weakL_nil, weakL_unk, weakL_guess, isRow_own, isRow_unk, weakL_int, weakL_bool, weakL_str, weakL_own, weakL_view, weakL_nilS, noRow_int, noRow_bool, own_inj, LTree.val, cond_true, cond_false, Prod.mk.injEq, List.cons.injEq, AV.int.injEq, AV.bool.injEq, AV.str.injEq, AV.agg.injEq, ann_areNotes_0, decide_eq_true_eq, decide_eq_false_iff_not, getT, hz]
  refine ⟨fun ha => ?_, fun ha => ?_⟩
  · have h1 := notesF_drop xs i.toNat tNote.zero (by omega)
    rw [show (i + 1).toNat = i.toNat + 1 by omega, h1]
    refine ⟨by omega, fun hc => ?_, fun hc => ?_⟩
    · simp only [Bool.not_eq_true'] at hc
      rw [hc]
      simp [Tree.ok, tyd_inj, packAV, AV.same, AV.same.sameL, encV, encS, enc, inK, Nd.ok, List.headD_cons, List.cons_append, List.nil_append, List.append_nil, true_and, and_true, Bool.true_and, Bool.and_true, loop_next, weakBs_nil, weakBs_cons, weakB_self, weakB_row, weakB_int, weakL_nil, weakL_unk, weakL_guess, isRow_own, isRow_unk, weakL_int, weakL_bool, weakL_str, weakL_own, weakL_view, weakL_nilS, noRow_int, noRow_bool, own_inj, LTree.val, cond_true, cond_false, Prod.mk.injEq, List.cons.injEq, AV.int.injEq, AV.bool.injEq, AV.str.injEq, AV.agg.injEq]
    · simp only [Bool.not_eq_false'] at hc
      rw [hc]
      simp only [Bool.true_and]
      exact ⟨by omega, by omega, by omega, trivial⟩
  · have h1 : i.toNat = xs.length := by omega
    rw [h1, List.drop_length]
    simp [Tree.ok, tyd_inj, packAV, AV.same, AV.same.sameL, encV, encS, enc, inK, Nd.ok, List.headD_cons, List.cons_append, List.nil_append, List.append_nil, true_and, and_true, Bool.true_and, Bool.and_true, loop_next, weakBs_nil, weakBs_cons, weakB_self, weakB_row, weakB_int, weakL_nil, weakL_unk, weakL_guess, isRow_own, isRow_unk, weakL_int, weakL_bool, weakL_str, weakL_own, weakL_view, weakL_nilS, noRow_int, noRow_bool, own_inj, LTree.val, cond_true, cond_false, Prod.mk.injEq, List.cons.injEq, AV.int.injEq, AV.bool.injEq, AV.str.injEq, AV.agg.injEq, notesF]
    omega
theorem loops_areNotes : ∀ c, Try.f93.body = some c → LoopsOk Try.prog (addL (firstId (loopAt Try.f93 0)) ann_areNotes_0 noL) Try.f93.ntmps c := loopsN fun i hi ann h => by
  have hn : loopN Try.f93 = 1 := by kernel_rfl
  rw [hn] at hi
  exact match i, hi, h with
    | 0, _, h => (Option.some.inj ((show (addL (firstId (loopAt Try.f93 0)) ann_areNotes_0 noL) (firstId (loopAt Try.f93 0)) = some ann_areNotes_0 from by kernel_rfl).symm.trans h)) ▸ loop_areNotes_0
set_option maxHeartbeats 1000000 in
theorem sat_areNotes : Sat Try.prog 93 ct_areNotes := by
  refine sat_typed (C := C_Fe_2) (L := (addL (firstId (loopAt Try.f93 0)) ann_areNotes_0 noL)) (wr := false) mixedOk Try.func93 C_Fe_2_ok (loops_areNotes) (fun _ => by first | rfl | (simp [ownsOf, ownsOf.ownsL, enc, encV, encS])) fun x hp => ?_
  obtain ⟨(xs : List tNote.den), _⟩ := x
  replace hp : (xs.length : Int) ≤ 9223372036854775807 := hp
  have htree : exFunc Try.prog C_Fe_2 false (addL (firstId (loopAt Try.f93 0)) ann_areNotes_0 noL) Try.f93 (encA [.v qNote] (xs, ())) = .need (((0 : Int) ≤ (0 : Int) ∧ (0 : Int) ≤ (↑xs.length : Int)) ∧ (↑xs.length : Int) = (↑xs.length : Int) ∧ (↑xs.length : Int) ≤ (9223372036854775807 : Int)) (.ite (notesF (List.drop (Int.toNat (0 : Int)) xs)) (.leaf [.lit true]) (.leaf [.bool (false)])) := by kernel_rfl
  refine (congrArg (Tree.ok _) htree).mpr ?_
  clear htree
  simp only [Tree.ok, tyd_inj, packAV, AV.same, AV.same.sameL, encV, encS, enc, inK, Nd.ok, List.headD_cons, List.cons_append, List.nil_append, List.append_nil, true_and, and_true, Bool.true_and, Bool.and_true, Int.toNat_zero, List.drop_zero]
  repeat' first | apply And.intro | intro _
  all_goals first | omega | simp_all
def C_Fe_3 : FuncId → Option Ct := addC 93 ct_areNotes C_Fe_2
theorem C_Fe_3_ok : COk Try.prog C_Fe_3 := addC_ok C_Fe_2_ok sat_areNotes
def ann_isScore_0 : LAnn := { sameS := [1], modS := [2, 3], sameH := [1], modH := [], base := 900000, nilE := [], nilB := [], G := fun
  | ⟨[.ptr 1 0], [.box [.view (.pair (.pair (.int .i64) (.int .i64)) (.pair (.pair (.int .i64) (.int .i64)) (.pair (.int .i64) (.pair (.int .i64) (.int .i64))))) xs]], [.bool r, .int .i64 i], []⟩ => some (.p ((1 ≤ i ∧ (i = 1 ∨ i ≤ (xs.length : Int))) ∧ xs.length ≤ 60 ∧ notesF xs = true), .ite (sortF xs (xs.length - i.toNat) i.toNat) (.leaf (.exit 0) [.bool r, .unk] []) (.leaf .ret [.bool false, .unk] []))
  | _ => none }
def ct_isScore : Ct := ctOf [.s qNote] (fun ((xs : List tNote.den), _) => .p ((xs.length : Int) ≤ 9223372036854775807)) (fun ((xs : List tNote.den), _) => .bool (scoreF xs))
set_option maxHeartbeats 1000000 in
theorem loop_isScore_0 : LoopSat Try.prog Try.f55.ntmps (loopAt Try.f55 0) ann_isScore_0 := by
  refine loopSat_of (C := C_Fe_3) (L := (addL (firstId (loopAt Try.f55 0)) ann_isScore_0 noL)) (wr := false) mixedOk C_Fe_3_ok (loopsIn0 (by kernel_rfl)) (fun d => match d.blk, d.vals with | [.box [.view _ xs]], [_, .int _ i] => ((xs.length : Int) - i).toNat | _, _ => 0) fun d p t hG hp => ?_
  simp only [ann_isScore_0] at hG
  split at hG
  rotate_left
  · simp at hG
  rename_i xs r i
  simp only [Option.some.injEq, Prod.mk.injEq] at hG
  obtain ⟨rfl, rfl⟩ := hG
  have htree : exRound Try.prog C_Fe_3 false (addL (firstId (loopAt Try.f55 0)) ann_isScore_0 noL) Try.f55.ntmps ann_isScore_0 (loopAt Try.f55 0) ⟨[.ptr 1 0], [.box [.view tNote xs]], [.bool r, .int .i64 i], []⟩ = .ite (decide (i < (↑xs.length : Int))) (.need (inK IntKind.i64 (i - (1 : Int))) (.need ((0 : Int) ≤ i - (1 : Int) ∧ i - (1 : Int) < (↑xs.length : Int)) (.need ((0 : Int) ≤ i ∧ i < (↑xs.length : Int)) (.need (noteF (((getT tNote xs (i - (1 : Int))).fst.fst, (getT tNote xs (i - (1 : Int))).fst.snd), ((getT tNote xs (i - (1 : Int))).snd.fst.fst, (getT tNote xs (i - (1 : Int))).snd.fst.snd), (getT tNote xs (i - (1 : Int))).snd.snd.fst, (getT tNote xs (i - (1 : Int))).snd.snd.snd.fst, (getT tNote xs (i - (1 : Int))).snd.snd.snd.snd) = true ∧ noteF (((getT tNote xs i).fst.fst, (getT tNote xs i).fst.snd), ((getT tNote xs i).snd.fst.fst, (getT tNote xs i).snd.fst.snd), (getT tNote xs i).snd.snd.fst, (getT tNote xs i).snd.snd.snd.fst, (getT tNote xs i).snd.snd.snd.snd) = true) (.ite (decide ((0 : Int) ≤ cmpN (((getT tNote xs (i - (1 : Int))).fst.fst, (getT tNote xs (i - (1 : Int))).fst.snd), ((getT tNote xs (i - (1 : Int))).snd.fst.fst, (getT tNote xs (i - (1 : Int))).snd.fst.snd), (getT tNote xs (i - (1 : Int))).snd.snd.fst, (getT tNote xs (i - (1 : Int))).snd.snd.snd.fst, (getT tNote xs (i - (1 : Int))).snd.snd.snd.snd) (((getT tNote xs i).fst.fst, (getT tNote xs i).fst.snd), ((getT tNote xs i).snd.fst.fst, (getT tNote xs i).snd.fst.snd), (getT tNote xs i).snd.snd.fst, (getT tNote xs i).snd.snd.snd.fst, (getT tNote xs i).snd.snd.snd.snd))) (.leaf (.ret, ⟨[.ptr 1 0], [.box [.view (tFrac.pair (tFrac.pair (I64.pair (I64.pair I64)))) (xs)]], [.bool (false), .int .i64 (i)], []⟩)) (.need (inK IntKind.i64 (i + (1 : Int))) (.leaf (.normal, ⟨[.ptr 1 0], [.box [.view (tFrac.pair (tFrac.pair (I64.pair (I64.pair I64)))) (xs)]], [.bool (r), .int .i64 (i + (1 : Int))], []⟩)))))))) (.leaf ((.exit 0), ⟨[.ptr 1 0], [.box [.view (tFrac.pair (tFrac.pair (I64.pair (I64.pair I64)))) (xs)]], [.bool (r), .int .i64 (i)], []⟩)) := by kernel_rfl
  rw [htree]
  clear htree
  replace hp : (1 ≤ i ∧ (i = 1 ∨ i ≤ (xs.length : Int))) ∧ xs.length ≤ 60 ∧ notesF xs = true := hp
  have hz : ∀ x y : tNote.den, cmpN ((x.1.1, x.1.2), (x.2.1.1, x.2.1.2), x.2.2.1, x.2.2.2.1, x.2.2.2.2) ((y.1.1, y.1.2), (y.2.1.1, y.2.1.2), y.2.2.1, y.2.2.2.1, y.2.2.2.2) = cmpN x y := fun _ _ => rfl
  have hz2 : ∀ x : tNote.den, noteF ((x.1.1, x.1.2), (x.2.1.1, x.2.1.2), x.2.2.1, x.2.2.2.1, x.2.2.2.2) = noteF x := fun _ => rfl
  simp only [Tree.ok, tyd_inj, packAV, AV.same, AV.same.sameL, encV, encS, enc, inK, Nd.ok, List.headD_cons, List.cons_append, List.nil_append, List.append_nil, true_and, and_true, Bool.true_and, Bool.and_true, loop_next, weakBs_nil, weakBs_cons, weakB_self, weakB_row, weakB_int, weakL_nil, weakL_unk, weakL_guess, isRow_own, isRow_unk, weakL_int, weakL_bool, weakL_str, weakL_own, weakL_view, weakL_nilS, noRow_int, noRow_bool, own_inj, LTree.val, cond_true, cond_false, Prod.mk.injEq, List.cons.injEq, AV.int.injEq, AV.bool.injEq, AV.str.injEq, AV.agg.injEq, ann_isScore_0, decide_eq_true_eq, decide_eq_false_iff_not, getT, hz, hz2]
  refine ⟨fun ha => ?_, fun ha => ?_⟩
  · have h1 := sortF_go xs i.toNat (by omega)
    have g1 := notesF_get hp.2.2 i.toNat tNote.zero (by omega)
    have g2 := notesF_get hp.2.2 (i.toNat - 1) tNote.zero (by omega)
    rw [show (i + 1).toNat = i.toNat + 1 by omega, show (i - 1).toNat = i.toNat - 1 by omega, h1]
    generalize cmpN (xs.getD (i.toNat - 1) tNote.zero) (xs.getD i.toNat tNote.zero) = c
    by_cases hc : c < 0
    · rw [decide_eq_true hc, Bool.true_and]
      repeat' first | apply And.intro | intro _
      all_goals first | omega | assumption | exact hp.2.2 | rfl
    · rw [decide_eq_false hc, Bool.false_and]
      repeat' first | apply And.intro | intro _
      all_goals first | omega | assumption | simp [Tree.ok, tyd_inj, packAV, AV.same, AV.same.sameL, encV, encS, enc, inK, Nd.ok, List.headD_cons, List.cons_append, List.nil_append, List.append_nil, true_and, and_true, Bool.true_and, Bool.and_true, loop_next, weakBs_nil, weakBs_cons, weakB_self, weakB_row, weakB_int, weakL_nil, weakL_unk, weakL_guess, isRow_own, isRow_unk, weakL_int, weakL_bool, weakL_str, weakL_own, weakL_view, weakL_nilS, noRow_int, noRow_bool, own_inj, LTree.val, cond_true, cond_false, Prod.mk.injEq, List.cons.injEq, AV.int.injEq, AV.bool.injEq, AV.str.injEq, AV.agg.injEq]
  · rw [show xs.length - i.toNat = 0 by omega]
    simp [Tree.ok, tyd_inj, packAV, AV.same, AV.same.sameL, encV, encS, enc, inK, Nd.ok, List.headD_cons, List.cons_append, List.nil_append, List.append_nil, true_and, and_true, Bool.true_and, Bool.and_true, loop_next, weakBs_nil, weakBs_cons, weakB_self, weakB_row, weakB_int, weakL_nil, weakL_unk, weakL_guess, isRow_own, isRow_unk, weakL_int, weakL_bool, weakL_str, weakL_own, weakL_view, weakL_nilS, noRow_int, noRow_bool, own_inj, LTree.val, cond_true, cond_false, Prod.mk.injEq, List.cons.injEq, AV.int.injEq, AV.bool.injEq, AV.str.injEq, AV.agg.injEq, sortF]
theorem loops_isScore : ∀ c, Try.f55.body = some c → LoopsOk Try.prog (addL (firstId (loopAt Try.f55 0)) ann_isScore_0 noL) Try.f55.ntmps c := loopsN fun i hi ann h => by
  have hn : loopN Try.f55 = 1 := by kernel_rfl
  rw [hn] at hi
  exact match i, hi, h with
    | 0, _, h => (Option.some.inj ((show (addL (firstId (loopAt Try.f55 0)) ann_isScore_0 noL) (firstId (loopAt Try.f55 0)) = some ann_isScore_0 from by kernel_rfl).symm.trans h)) ▸ loop_isScore_0
set_option maxHeartbeats 1000000 in
theorem sat_isScore : Sat Try.prog 55 ct_isScore := by
  refine sat_typed (C := C_Fe_3) (L := (addL (firstId (loopAt Try.f55 0)) ann_isScore_0 noL)) (wr := false) mixedOk Try.func55 C_Fe_3_ok (loops_isScore) (fun _ => by first | rfl | (simp [ownsOf, ownsOf.ownsL, enc, encV, encS])) fun x hp => ?_
  obtain ⟨(xs : List tNote.den), _⟩ := x
  replace hp : (xs.length : Int) ≤ 9223372036854775807 := hp
  have htree : exFunc Try.prog C_Fe_3 false (addL (firstId (loopAt Try.f55 0)) ann_isScore_0 noL) Try.f55 (encA [.s qNote] (xs, ())) = .ite (decide ((60 : Int) < (↑xs.length : Int))) (.leaf [.lit false]) (.need ((↑xs.length : Int) ≤ (9223372036854775807 : Int)) (.ite (!notesF xs) (.leaf [.lit false]) (.need (((1 : Int) ≤ (1 : Int) ∧ ((1 : Int) = (1 : Int) ∨ (1 : Int) ≤ (↑xs.length : Int))) ∧ xs.length ≤ (60 : Nat) ∧ notesF xs = true) (.ite (sortF xs (xs.length - Int.toNat (1 : Int)) (Int.toNat (1 : Int))) (.leaf [.lit true]) (.leaf [.bool (false)]))))) := by kernel_rfl
  refine (congrArg (Tree.ok _) htree).mpr ?_
  clear htree
  have hb := both_all xs
  by_cases hl : xs.length ≤ 60
  · have hs : scoreF xs = bothF xs xs.length 0 := by simp [scoreF, hl]
    simp only [Tree.ok, tyd_inj, packAV, AV.same, AV.same.sameL, encV, encS, enc, inK, Nd.ok, List.headD_cons, List.cons_append, List.nil_append, List.append_nil, true_and, and_true, Bool.true_and, Bool.and_true, hs, hb, Int.toNat_one, Int.toNat_zero, Nat.sub_zero, decide_eq_true_eq, decide_eq_false_iff_not]
    repeat' first | apply And.intro | intro _
    all_goals first | omega | grind
  · have hs : scoreF xs = false := by simp [scoreF, hl]
    simp only [Tree.ok, tyd_inj, packAV, AV.same, AV.same.sameL, encV, encS, enc, inK, Nd.ok, List.headD_cons, List.cons_append, List.nil_append, List.append_nil, true_and, and_true, Bool.true_and, Bool.and_true, hs, decide_eq_true_eq, decide_eq_false_iff_not]
    repeat' first | apply And.intro | intro _
    all_goals first | omega | rfl | grind
def C_Fe_4 : FuncId → Option Ct := addC 55 ct_isScore C_Fe_3
theorem C_Fe_4_ok : COk Try.prog C_Fe_4 := addC_ok C_Fe_3_ok sat_isScore
def ann_l18Ok_0 : LAnn := { sameS := [0], modS := [2, 3], sameH := [], modH := [], base := 900000, nilE := [], nilB := [], G := fun
  | ⟨[.velt (.seq (.pair (.pair (.int .i64) (.int .i64)) (.pair (.pair (.int .i64) (.int .i64)) (.pair (.int .i64) (.pair (.int .i64) (.int .i64)))))) xs 0], [], [.bool r, .int .i64 i], []⟩ => some (.p ((0 ≤ i ∧ i ≤ (xs.length : Int)) ∧ xs.length ≤ 60 ∧ (0 < i → noteF (xs.getD (i.toNat - 1) tNote.zero) = true)), .ite (bothF xs (xs.length - i.toNat) i.toNat) (.leaf (.exit 0) [.bool r, .unk] []) (.leaf .ret [.bool false, .unk] []))
  | _ => none }
def ct_l18Ok : Ct := ctOf [.p qNote] (fun ((xs : List tNote.den), _) => .p ((xs.length : Int) ≤ 9223372036854775807)) (fun ((xs : List tNote.den), _) => .bool (scoreF xs))
set_option maxHeartbeats 1000000 in
theorem loop_l18Ok_0 : LoopSat Try.prog Try.f50.ntmps (loopAt Try.f50 0) ann_l18Ok_0 := by
  refine loopSat_of (C := C_Fe_4) (L := (addL (firstId (loopAt Try.f50 0)) ann_l18Ok_0 noL)) (wr := false) mixedOk C_Fe_4_ok (loopsIn0 (by kernel_rfl)) (fun d => match d.same, d.vals with | [.velt (.seq _) xs _], [_, .int _ i] => (((show List _ from xs).length : Int) - i).toNat | _, _ => 0) fun d p t hG hp => ?_
  simp only [ann_l18Ok_0] at hG
  split at hG
  rotate_left
  · simp at hG
  rename_i xs r i
  simp only [Option.some.injEq, Prod.mk.injEq] at hG
  obtain ⟨rfl, rfl⟩ := hG
  have htree : exRound Try.prog C_Fe_4 false (addL (firstId (loopAt Try.f50 0)) ann_l18Ok_0 noL) Try.f50.ntmps ann_l18Ok_0 (loopAt Try.f50 0) ⟨[.velt qNote xs 0], [], [.bool r, .int .i64 i], []⟩ = .ite (decide (i < (↑xs.length : Int))) (.need ((0 : Int) ≤ i ∧ i < (↑xs.length : Int)) (.ite (!noteF (((getT tNote xs i).fst.fst, (getT tNote xs i).fst.snd), ((getT tNote xs i).snd.fst.fst, (getT tNote xs i).snd.fst.snd), (getT tNote xs i).snd.snd.fst, (getT tNote xs i).snd.snd.snd.fst, (getT tNote xs i).snd.snd.snd.snd)) (.leaf (.ret, ⟨[.velt (tNote.seq) (xs) ((0 : Nat))], [], [.bool (false), .int .i64 (i)], []⟩)) (.ite (decide ((0 : Int) < i)) (.need (inK IntKind.i64 (i - (1 : Int))) (.need ((0 : Int) ≤ i - (1 : Int) ∧ i - (1 : Int) < (↑xs.length : Int)) (.need ((0 : Int) ≤ i ∧ i < (↑xs.length : Int)) (.need (noteF (((getT tNote xs (i - (1 : Int))).fst.fst, (getT tNote xs (i - (1 : Int))).fst.snd), ((getT tNote xs (i - (1 : Int))).snd.fst.fst, (getT tNote xs (i - (1 : Int))).snd.fst.snd), (getT tNote xs (i - (1 : Int))).snd.snd.fst, (getT tNote xs (i - (1 : Int))).snd.snd.snd.fst, (getT tNote xs (i - (1 : Int))).snd.snd.snd.snd) = true ∧ noteF (((getT tNote xs i).fst.fst, (getT tNote xs i).fst.snd), ((getT tNote xs i).snd.fst.fst, (getT tNote xs i).snd.fst.snd), (getT tNote xs i).snd.snd.fst, (getT tNote xs i).snd.snd.snd.fst, (getT tNote xs i).snd.snd.snd.snd) = true) (.ite (decide ((0 : Int) ≤ cmpN (((getT tNote xs (i - (1 : Int))).fst.fst, (getT tNote xs (i - (1 : Int))).fst.snd), ((getT tNote xs (i - (1 : Int))).snd.fst.fst, (getT tNote xs (i - (1 : Int))).snd.fst.snd), (getT tNote xs (i - (1 : Int))).snd.snd.fst, (getT tNote xs (i - (1 : Int))).snd.snd.snd.fst, (getT tNote xs (i - (1 : Int))).snd.snd.snd.snd) (((getT tNote xs i).fst.fst, (getT tNote xs i).fst.snd), ((getT tNote xs i).snd.fst.fst, (getT tNote xs i).snd.fst.snd), (getT tNote xs i).snd.snd.fst, (getT tNote xs i).snd.snd.snd.fst, (getT tNote xs i).snd.snd.snd.snd))) (.leaf (.ret, ⟨[.velt (tNote.seq) (xs) ((0 : Nat))], [], [.bool (false), .int .i64 (i)], []⟩)) (.need (inK IntKind.i64 (i + (1 : Int))) (.leaf (.normal, ⟨[.velt (tNote.seq) (xs) ((0 : Nat))], [], [.bool (r), .int .i64 (i + (1 : Int))], []⟩)))))))) (.need (inK IntKind.i64 (i + (1 : Int))) (.leaf (.normal, ⟨[.velt (tNote.seq) (xs) ((0 : Nat))], [], [.bool (r), .int .i64 (i + (1 : Int))], []⟩)))))) (.leaf ((.exit 0), ⟨[.velt (tNote.seq) (xs) ((0 : Nat))], [], [.bool (r), .int .i64 (i)], []⟩)) := by kernel_rfl
  rw [htree]
  clear htree
  replace hp : (0 ≤ i ∧ i ≤ (xs.length : Int)) ∧ xs.length ≤ 60 ∧ (0 < i → noteF (xs.getD (i.toNat - 1) tNote.zero) = true) := hp
  have hz : ∀ x y : tNote.den, cmpN ((x.1.1, x.1.2), (x.2.1.1, x.2.1.2), x.2.2.1, x.2.2.2.1, x.2.2.2.2) ((y.1.1, y.1.2), (y.2.1.1, y.2.1.2), y.2.2.1, y.2.2.2.1, y.2.2.2.2) = cmpN x y := fun _ _ => rfl
  have hz2 : ∀ x : tNote.den, noteF ((x.1.1, x.1.2), (x.2.1.1, x.2.1.2), x.2.2.1, x.2.2.2.1, x.2.2.2.2) = noteF x := fun _ => rfl
  simp only [Tree.ok, tyd_inj, packAV, AV.same, AV.same.sameL, encV, encS, enc, inK, Nd.ok, List.headD_cons, List.cons_append, List.nil_append, List.append_nil, true_and, and_true, Bool.true_and, Bool.and_true, loop_next, weakBs_nil, weakBs_cons, weakB_self, weakB_row, weakB_int, weakL_nil, weakL_unk, weakL_guess, isRow_own, isRow_unk, weakL_int, weakL_bool, weakL_str, weakL_own, weakL_view, weakL_nilS, noRow_int, noRow_bool, own_inj, LTree.val, cond_true, cond_false, Prod.mk.injEq, List.cons.injEq, AV.int.injEq, AV.bool.injEq, AV.str.injEq, AV.agg.injEq, ann_l18Ok_0, decide_eq_true_eq, decide_eq_false_iff_not, getT, hz, hz2]
  refine ⟨fun ha => ?_, fun ha => ?_⟩
  · have h1 := bothF_go xs i.toNat (by omega)
    rw [show (i + 1).toNat = i.toNat + 1 by omega, show (i - 1).toNat = i.toNat - 1 by omega, h1]
    have h3 : 0 < i.toNat ↔ 0 < i := by omega
    generalize cmpN (xs.getD (i.toNat - 1) tNote.zero) (xs.getD i.toNat tNote.zero) = c
    by_cases hn : noteF (xs.getD i.toNat tNote.zero) = true
    · rw [hn, Bool.true_and]
      by_cases hc : i.toNat = 0 ∨ c < 0
      · rw [decide_eq_true hc, Bool.true_and]
        repeat' first | apply And.intro | intro _
        all_goals first | omega | assumption | grind
      · rw [decide_eq_false hc, Bool.false_and]
        repeat' first | apply And.intro | intro _
        all_goals first | omega | assumption | (simp [Tree.ok, tyd_inj, packAV, AV.same, AV.same.sameL, encV, encS, enc, inK, Nd.ok, List.headD_cons, List.cons_append, List.nil_append, List.append_nil, true_and, and_true, Bool.true_and, Bool.and_true, loop_next, weakBs_nil, weakBs_cons, weakB_self, weakB_row, weakB_int, weakL_nil, weakL_unk, weakL_guess, isRow_own, isRow_unk, weakL_int, weakL_bool, weakL_str, weakL_own, weakL_view, weakL_nilS, noRow_int, noRow_bool, own_inj, LTree.val, cond_true, cond_false, Prod.mk.injEq, List.cons.injEq, AV.int.injEq, AV.bool.injEq, AV.str.injEq, AV.agg.injEq]; done) | grind
    · rw [Bool.not_eq_true] at hn
      rw [hn, Bool.false_and]
      repeat' first | apply And.intro | intro _
      all_goals first | omega | assumption | (simp [Tree.ok, tyd_inj, packAV, AV.same, AV.same.sameL, encV, encS, enc, inK, Nd.ok, List.headD_cons, List.cons_append, List.nil_append, List.append_nil, true_and, and_true, Bool.true_and, Bool.and_true, loop_next, weakBs_nil, weakBs_cons, weakB_self, weakB_row, weakB_int, weakL_nil, weakL_unk, weakL_guess, isRow_own, isRow_unk, weakL_int, weakL_bool, weakL_str, weakL_own, weakL_view, weakL_nilS, noRow_int, noRow_bool, own_inj, LTree.val, cond_true, cond_false, Prod.mk.injEq, List.cons.injEq, AV.int.injEq, AV.bool.injEq, AV.str.injEq, AV.agg.injEq]; done) | grind
  · rw [show xs.length - i.toNat = 0 by omega]
    simp [Tree.ok, tyd_inj, packAV, AV.same, AV.same.sameL, encV, encS, enc, inK, Nd.ok, List.headD_cons, List.cons_append, List.nil_append, List.append_nil, true_and, and_true, Bool.true_and, Bool.and_true, loop_next, weakBs_nil, weakBs_cons, weakB_self, weakB_row, weakB_int, weakL_nil, weakL_unk, weakL_guess, isRow_own, isRow_unk, weakL_int, weakL_bool, weakL_str, weakL_own, weakL_view, weakL_nilS, noRow_int, noRow_bool, own_inj, LTree.val, cond_true, cond_false, Prod.mk.injEq, List.cons.injEq, AV.int.injEq, AV.bool.injEq, AV.str.injEq, AV.agg.injEq, bothF]
theorem loops_l18Ok : ∀ c, Try.f50.body = some c → LoopsOk Try.prog (addL (firstId (loopAt Try.f50 0)) ann_l18Ok_0 noL) Try.f50.ntmps c := loopsN fun i hi ann h => by
  have hn : loopN Try.f50 = 1 := by kernel_rfl
  rw [hn] at hi
  exact match i, hi, h with
    | 0, _, h => (Option.some.inj ((show (addL (firstId (loopAt Try.f50 0)) ann_l18Ok_0 noL) (firstId (loopAt Try.f50 0)) = some ann_l18Ok_0 from by kernel_rfl).symm.trans h)) ▸ loop_l18Ok_0
set_option maxHeartbeats 1000000 in
theorem sat_l18Ok : Sat Try.prog 50 ct_l18Ok := by
  refine sat_typed (C := C_Fe_4) (L := (addL (firstId (loopAt Try.f50 0)) ann_l18Ok_0 noL)) (wr := false) mixedOk Try.func50 C_Fe_4_ok (loops_l18Ok) (fun _ => by first | rfl | (simp [ownsOf, ownsOf.ownsL, enc, encV, encS])) fun x hp => ?_
  obtain ⟨(xs : List tNote.den), _⟩ := x
  replace hp : (xs.length : Int) ≤ 9223372036854775807 := hp
  have htree : exFunc Try.prog C_Fe_4 false (addL (firstId (loopAt Try.f50 0)) ann_l18Ok_0 noL) Try.f50 (encA [.p qNote] (xs, ())) = .ite (decide ((60 : Int) < (↑xs.length : Int))) (.leaf [.lit false]) (.need (((0 : Int) ≤ (0 : Int) ∧ (0 : Int) ≤ (↑xs.length : Int)) ∧ xs.length ≤ (60 : Nat) ∧ ((0 : Int) < (0 : Int) → noteF (xs.getD (Int.toNat (0 : Int) - (1 : Nat)) tNote.zero) = true)) (.ite (bothF xs (xs.length - Int.toNat (0 : Int)) (Int.toNat (0 : Int))) (.leaf [.lit true]) (.leaf [.bool (false)]))) := by kernel_rfl
  refine (congrArg (Tree.ok _) htree).mpr ?_
  clear htree
  have hb := both_all xs
  by_cases hl : xs.length ≤ 60
  · have hs : scoreF xs = bothF xs xs.length 0 := by simp [scoreF, hl]
    simp only [Tree.ok, tyd_inj, packAV, AV.same, AV.same.sameL, encV, encS, enc, inK, Nd.ok, List.headD_cons, List.cons_append, List.nil_append, List.append_nil, true_and, and_true, Bool.true_and, Bool.and_true, hs, Int.toNat_one, Int.toNat_zero, Nat.sub_zero, decide_eq_true_eq, decide_eq_false_iff_not]
    repeat' first | apply And.intro | intro _
    all_goals first | omega | grind
  · have hs : scoreF xs = false := by simp [scoreF, hl]
    simp only [Tree.ok, tyd_inj, packAV, AV.same, AV.same.sameL, encV, encS, enc, inK, Nd.ok, List.headD_cons, List.cons_append, List.nil_append, List.append_nil, true_and, and_true, Bool.true_and, Bool.and_true, hs, decide_eq_true_eq, decide_eq_false_iff_not]
    repeat' first | apply And.intro | intro _
    all_goals first | omega | rfl | grind
def C_Fe_5 : FuncId → Option Ct := addC 50 ct_l18Ok C_Fe_4
theorem C_Fe_5_ok : COk Try.prog C_Fe_5 := addC_ok C_Fe_4_ok sat_l18Ok

def C_Fe : FuncId → Option Ct := C_Fe_5
theorem C_Fe_ok : COk Try.prog C_Fe := C_Fe_5_ok
end Go.Proofs.Ytemlpimibhijoaa
