/- Contracts: tunings taken over, compared, counted, valid; the program and the reference. Conditions: as each says. -/
import Derived.Test.YtjgjcggecikdpaaFf
set_option linter.unusedSimpArgs false
set_option linter.unusedVariables false
namespace Go.Proofs.Ytjgjcggecikdpaa
open Go.RowKit Sx
set_option maxRecDepth 100000
set_option maxHeartbeats 1000000
abbrev tTuning : Ty := .pair tFrac (.pair tFrac (.seq tFrac))
def ann_eqFracS_0 : LAnn := { sameS := [0, 1], modS := [4, 5], sameH := [], modH := [], base := 900000, nilE := [], nilB := [], G := fun
  | ⟨[.view (.pair (.int .i64) (.int .i64)) xs, .view (.pair (.int .i64) (.int .i64)) ys], [], [.bool r, .int .i64 i], []⟩ => some (.p ((0 ≤ i ∧ i ≤ (xs.length : Int)) ∧ xs.length = ys.length ∧ (xs.length : Int) ≤ 9223372036854775807), .ite (decide (xs.drop i.toNat = ys.drop i.toNat)) (.leaf (.exit 0) [.bool r, .int .i64 (xs.length : Int)] []) (.leaf .ret [.bool false, .unk] []))
  | _ => none }
def ct_eqFracS : Ct := ctOf [.v qFrac, .v qFrac] (fun ((xs : List tFrac.den), (ys : List tFrac.den), _) => .p ((xs.length : Int) ≤ 9223372036854775807)) (fun ((xs : List tFrac.den), (ys : List tFrac.den), _) => .bool (decide (xs = ys)))
set_option maxHeartbeats 1000000 in
theorem loop_eqFracS_0 : LoopSat Try.prog Try.f132.ntmps (loopAt Try.f132 0) ann_eqFracS_0 := by
  refine loopSat_of (C := C_Ff) (L := (addL (firstId (loopAt Try.f132 0)) ann_eqFracS_0 noL)) (wr := false) mixedOk C_Ff_ok (loopsIn0 (by kernel_rfl)) (fun d => match d.same, d.vals with | [.view _ xs, _], [_, .int _ i] => ((xs.length : Int) - i).toNat | _, _ => 0) fun d p t hG hp => ?_
  simp only [ann_eqFracS_0] at hG
  split at hG
  rotate_left
  · simp at hG
  rename_i xs ys r i
  simp only [Option.some.injEq, Prod.mk.injEq] at hG
  obtain ⟨rfl, rfl⟩ := hG
  have htree : exRound Try.prog C_Ff false (addL (firstId (loopAt Try.f132 0)) ann_eqFracS_0 noL) Try.f132.ntmps ann_eqFracS_0 (loopAt Try.f132 0) ⟨[.view tFrac xs, .view tFrac ys], [], [.bool r, .int .i64 i], []⟩ = .ite (decide (i < (↑xs.length : Int))) (.need ((0 : Int) ≤ i ∧ i < (↑xs.length : Int)) (.need ((0 : Int) ≤ i ∧ i < (↑ys.length : Int)) (.ite (!decide ((getT tFrac xs i).fst = (getT tFrac ys i).fst ∧ (getT tFrac xs i).snd = (getT tFrac ys i).snd)) (.leaf (.ret, ⟨[.view (I64.pair I64) (xs), .view (I64.pair I64) (ys)], [], [.bool (false), .int .i64 (i)], []⟩)) (.need (inK IntKind.i64 (i + (1 : Int))) (.leaf (.normal, ⟨[.view (I64.pair I64) (xs), .view (I64.pair I64) (ys)], [], [.bool (r), .int .i64 (i + (1 : Int))], []⟩)))))) (.leaf ((.exit 0), ⟨[.view (I64.pair I64) (xs), .view (I64.pair I64) (ys)], [], [.bool (r), .int .i64 (i)], []⟩)) := by kernel_rfl
  rw [htree]
  clear htree
  replace hp : (0 ≤ i ∧ i ≤ (xs.length : Int)) ∧ xs.length = ys.length ∧ (xs.length : Int) ≤ 9223372036854775807 := hp
  simp only [Tree.ok, tyd_inj, packAV, AV.same, AV.same.sameL, encV, encS, enc, inK, Nd.ok, List.headD_cons, List.cons_append, List.nil_append, List.append_nil, true_and, and_true, Bool.true_and, Bool.and_true, loop_next, weakBs_nil, weakBs_cons, weakB_self, weakB_row, weakB_int, weakL_nil, weakL_unk, weakL_guess, isRow_own, isRow_unk, weakL_int, weakL_bool, weakL_str, weakL_own, weakL_view, weakL_nilS, noRow_int, noRow_bool, own_inj, LTree.val, cond_true, cond_false, Prod.mk.injEq, List.cons.injEq, AV.int.injEq, AV.bool.injEq, AV.str.injEq, AV.agg.injEq, ann_eqFracS_0, decide_eq_true_eq, decide_eq_false_iff_not, bne_iff_ne, ne_eq, bne_eq_false_iff_eq, getT]
  refine ⟨fun ha => ?_, fun ha => ?_⟩
  · have h1 := drop_eq_iff xs ys i.toNat tFrac.zero (by omega) (by omega)
    simp only [Prod.ext_iff] at h1 ⊢
    rw [show (i + 1).toNat = i.toNat + 1 by omega]
    repeat' first | apply And.intro | intro _
    all_goals first
      | omega
      | (rw [decide_eq_false (show ¬ (xs.drop i.toNat = ys.drop i.toNat) by grind)]; simp [Tree.ok, tyd_inj, packAV, AV.same, AV.same.sameL, encV, encS, enc, inK, Nd.ok, List.headD_cons, List.cons_append, List.nil_append, List.append_nil, true_and, and_true, Bool.true_and, Bool.and_true, loop_next, weakBs_nil, weakBs_cons, weakB_self, weakB_row, weakB_int, weakL_nil, weakL_unk, weakL_guess, isRow_own, isRow_unk, weakL_int, weakL_bool, weakL_str, weakL_own, weakL_view, weakL_nilS, noRow_int, noRow_bool, own_inj, LTree.val, cond_true, cond_false, Prod.mk.injEq, List.cons.injEq, AV.int.injEq, AV.bool.injEq, AV.str.injEq, AV.agg.injEq]; done)
      | rw [show decide (xs.drop i.toNat = ys.drop i.toNat) = decide (xs.drop (i.toNat + 1) = ys.drop (i.toNat + 1)) by grind]
  · have h1 : i.toNat = xs.length := by omega
    have h2 : xs.length = ys.length := by omega
    rw [h1, decide_eq_true (show xs.drop xs.length = ys.drop xs.length by rw [List.drop_length, h2, List.drop_length])]
    simp [Tree.ok, tyd_inj, packAV, AV.same, AV.same.sameL, encV, encS, enc, inK, Nd.ok, List.headD_cons, List.cons_append, List.nil_append, List.append_nil, true_and, and_true, Bool.true_and, Bool.and_true, loop_next, weakBs_nil, weakBs_cons, weakB_self, weakB_row, weakB_int, weakL_nil, weakL_unk, weakL_guess, isRow_own, isRow_unk, weakL_int, weakL_bool, weakL_str, weakL_own, weakL_view, weakL_nilS, noRow_int, noRow_bool, own_inj, LTree.val, cond_true, cond_false, Prod.mk.injEq, List.cons.injEq, AV.int.injEq, AV.bool.injEq, AV.str.injEq, AV.agg.injEq]
    omega
theorem loops_eqFracS : ∀ c, Try.f132.body = some c → LoopsOk Try.prog (addL (firstId (loopAt Try.f132 0)) ann_eqFracS_0 noL) Try.f132.ntmps c := loopsN fun i hi ann h => by
  have hn : loopN Try.f132 = 1 := by kernel_rfl
  rw [hn] at hi
  exact match i, hi, h with
    | 0, _, h => (Option.some.inj ((show (addL (firstId (loopAt Try.f132 0)) ann_eqFracS_0 noL) (firstId (loopAt Try.f132 0)) = some ann_eqFracS_0 from by kernel_rfl).symm.trans h)) ▸ loop_eqFracS_0
set_option maxHeartbeats 1000000 in
theorem sat_eqFracS : Sat Try.prog 132 ct_eqFracS := by
  refine sat_typed (C := C_Ff) (L := (addL (firstId (loopAt Try.f132 0)) ann_eqFracS_0 noL)) (wr := false) mixedOk Try.func132 C_Ff_ok (loops_eqFracS) (fun _ => by first | rfl | (simp [ownsOf, ownsOf.ownsL, enc, encV, encS])) fun x hp => ?_
  obtain ⟨(xs : List tFrac.den), (ys : List tFrac.den), _⟩ := x
  replace hp : (xs.length : Int) ≤ 9223372036854775807 := hp
  have htree : exFunc Try.prog C_Ff false (addL (firstId (loopAt Try.f132 0)) ann_eqFracS_0 noL) Try.f132 (encA [.v qFrac, .v qFrac] (xs, ys, ())) = .ite ((↑xs.length : Int) != (↑ys.length : Int)) (.leaf [.lit false]) (.need (((0 : Int) ≤ (0 : Int) ∧ (0 : Int) ≤ (↑xs.length : Int)) ∧ xs.length = ys.length ∧ (↑xs.length : Int) ≤ (9223372036854775807 : Int)) (.ite (decide (List.drop (Int.toNat (0 : Int)) xs = List.drop (Int.toNat (0 : Int)) ys)) (.leaf [.lit true]) (.leaf [.bool (false)]))) := by kernel_rfl
  refine (congrArg (Tree.ok _) htree).mpr ?_
  clear htree
  simp only [Tree.ok, tyd_inj, packAV, AV.same, AV.same.sameL, encV, encS, enc, inK, Nd.ok, List.headD_cons, List.cons_append, List.nil_append, List.append_nil, true_and, and_true, Bool.true_and, Bool.and_true, Int.toNat_zero, List.drop_zero, decide_eq_true_eq, decide_eq_false_iff_not, bne_iff_ne, ne_eq, bne_eq_false_iff_eq]
  repeat' first | apply And.intro | intro _
  all_goals grind
def C_Fg_1 : FuncId → Option Ct := addC 132 ct_eqFracS C_Ff
theorem C_Fg_1_ok : COk Try.prog C_Fg_1 := addC_ok C_Ff_ok sat_eqFracS
def ct_eqTuning : Ct := ctOf [.s tTuning, .s tTuning] (fun ((x : tTuning.den), (y : tTuning.den), _) => .p (((x.2.2 : List tFrac.den).length : Int) ≤ 9223372036854775807)) (fun ((x : tTuning.den), (y : tTuning.den), _) => .bool (decide (x.1.1 = y.1.1 ∧ x.1.2 = y.1.2 ∧ x.2.1.1 = y.2.1.1 ∧ x.2.1.2 = y.2.1.2 ∧ (x.2.2 : List tFrac.den) = y.2.2)))
set_option maxHeartbeats 1000000 in
theorem sat_eqTuning : Sat Try.prog 49 ct_eqTuning := by
  refine sat_typed (C := C_Fg_1) (L := noL) (wr := false) mixedOk Try.func49 C_Fg_1_ok (loops0 (by kernel_rfl)) (fun _ => by first | rfl | (simp [ownsOf, ownsOf.ownsL, enc, encV, encS])) fun x hp => ?_
  obtain ⟨(x : tTuning.den), (y : tTuning.den), _⟩ := x
  replace hp : ((x.2.2 : List tFrac.den).length : Int) ≤ 9223372036854775807 := hp
  have htree : exFunc Try.prog C_Fg_1 false noL Try.f49 (encA [.s tTuning, .s tTuning] (x, y, ())) = .ite (!decide (x.fst.fst = y.fst.fst ∧ x.fst.snd = y.fst.snd)) (.leaf [.lit false]) (.ite (!decide (x.snd.fst.fst = y.snd.fst.fst ∧ x.snd.fst.snd = y.snd.fst.snd)) (.leaf [.lit false]) (.need ((↑(List.length x.snd.snd) : Int) ≤ (9223372036854775807 : Int)) (.ite (!decide (x.snd.snd = y.snd.snd)) (.leaf [.lit false]) (.leaf [.lit true])))) := by kernel_rfl
  refine (congrArg (Tree.ok _) htree).mpr ?_
  clear htree
  simp only [Tree.ok, tyd_inj, packAV, AV.same, AV.same.sameL, encV, encS, enc, inK, Nd.ok, List.headD_cons, List.cons_append, List.nil_append, List.append_nil, true_and, and_true, Bool.true_and, Bool.and_true]
  repeat' first | apply And.intro | intro _
  all_goals first | omega | grind
def C_Fg_2 : FuncId → Option Ct := addC 49 ct_eqTuning C_Fg_1
theorem C_Fg_2_ok : COk Try.prog C_Fg_2 := addC_ok C_Fg_1_ok sat_eqTuning
def ct_sizeFrac : Ct := ctOf [.v qFrac] (fun ((xs : List tFrac.den), _) => .p ((xs.length : Int) ≤ 9223372036854775807)) (fun ((xs : List tFrac.den), _) => .int .i64 (xs.length : Int))
set_option maxHeartbeats 1000000 in
theorem sat_sizeFrac : Sat Try.prog 84 ct_sizeFrac := by
  refine sat_typed (C := C_Fg_2) (L := noL) (wr := false) mixedOk Try.func84 C_Fg_2_ok (loops0 (by kernel_rfl)) (fun _ => by first | rfl | (simp [ownsOf, ownsOf.ownsL, enc, encV, encS])) fun x hp => ?_
  obtain ⟨(xs : List tFrac.den), _⟩ := x
  replace hp : (xs.length : Int) ≤ 9223372036854775807 := hp
  have htree : exFunc Try.prog C_Fg_2 false noL Try.f84 (encA [.v qFrac] (xs, ())) = .leaf [.int .i64 ((↑xs.length : Int))] := by kernel_rfl
  refine (congrArg (Tree.ok _) htree).mpr ?_
  clear htree
  simp [Tree.ok, tyd_inj, packAV, AV.same, AV.same.sameL, encV, encS, enc, inK, Nd.ok, List.headD_cons, List.cons_append, List.nil_append, List.append_nil, true_and, and_true, Bool.true_and, Bool.and_true]
def C_Fg_3 : FuncId → Option Ct := addC 84 ct_sizeFrac C_Fg_2
theorem C_Fg_3_ok : COk Try.prog C_Fg_3 := addC_ok C_Fg_2_ok sat_sizeFrac

def C_Fg : FuncId → Option Ct := C_Fg_3
theorem C_Fg_ok : COk Try.prog C_Fg := C_Fg_3_ok
end Go.Proofs.Ytjgjcggecikdpaa
