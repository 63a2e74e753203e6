/- The law on modes of modes. Conditions: as each says. -/
import Derived.Test.YtjgjcggecikdpaaRd
import Derived.Test.YtjgjcggecikdpaaQM
set_option linter.unusedSimpArgs false
set_option linter.unusedVariables false
namespace Go.Proofs.Ytjgjcggecikdpaa
open Go.RowKit Sx
set_option maxRecDepth 100000
set_option maxHeartbeats 1000000
def C_TmB : FuncId → Option Ct := addC 24 ct_A2Tuning (addC 13 ct_a2Long (addC 15 ct_a2At C_Fm))
theorem C_TmB_ok : COk Try.prog C_TmB := addC_ok (addC_ok (addC_ok C_Fm_ok sat_a2At) sat_a2Long) sat_A2Tuning
def ann_sSameTuning_0 : LAnn := { sameS := [2, 3], modS := [4, 5], sameH := [2, 3], modH := [], base := 900000, nilE := [], nilB := [], G := fun
  | ⟨[.ptr 2 0, .ptr 3 0], [.box [.int .i64 x1, .int .i64 x2, .int .i64 x3, .int .i64 x4, .view (.pair (.int .i64) (.int .i64)) xs], .box [.int .i64 y1, .int .i64 y2, .int .i64 y3, .int .i64 y4, .view (.pair (.int .i64) (.int .i64)) ys]], [.bool r, .int .i64 i], []⟩ => some (.p ((0 ≤ i ∧ i ≤ (xs.length : Int)) ∧ xs.length = ys.length ∧ (xs.length : Int) ≤ 9223372036854775807), .ite (decide (xs.drop i.toNat = ys.drop i.toNat)) (.leaf (.exit 0) [.bool r, .int .i64 (xs.length : Int)] []) (.leaf .ret [.bool false, .unk] []))
  | _ => none }
def ct_sSameTuning : Ct := ctOf [.s tTuning, .s tTuning] (fun ((x : tTuning.den), (y : tTuning.den), _) => .p (((x.2.2 : List tFrac.den).length : Int) ≤ 9223372036854775807)) (fun ((x : tTuning.den), (y : tTuning.den), _) => .bool (decide ((x.1.1 = y.1.1 ∧ x.1.2 = y.1.2) ∧ (x.2.1.1 = y.2.1.1 ∧ x.2.1.2 = y.2.1.2) ∧ (x.2.2 : List tFrac.den) = y.2.2)))
set_option maxHeartbeats 1000000 in
theorem loop_sSameTuning_0 : LoopSat Try.prog Try.f26.ntmps (loopAt Try.f26 0) ann_sSameTuning_0 := by
  refine loopSat_of (C := C_TmB) (L := (addL (firstId (loopAt Try.f26 0)) ann_sSameTuning_0 noL)) (wr := false) mixedOk C_TmB_ok (loopsIn0 (by kernel_rfl)) (fun d => match d.blk, d.vals with | [.box [_, _, _, _, .view _ xs], _], [_, .int _ i] => ((xs.length : Int) - i).toNat | _, _ => 0) fun d p t hG hp => ?_
  simp only [ann_sSameTuning_0] at hG
  split at hG
  rotate_left
  · simp at hG
  rename_i x1 x2 x3 x4 xs y1 y2 y3 y4 ys r i
  simp only [Option.some.injEq, Prod.mk.injEq] at hG
  obtain ⟨rfl, rfl⟩ := hG
  have htree : exRound Try.prog C_TmB false (addL (firstId (loopAt Try.f26 0)) ann_sSameTuning_0 noL) Try.f26.ntmps ann_sSameTuning_0 (loopAt Try.f26 0) ⟨[.ptr 2 0, .ptr 3 0], [.box [.int .i64 x1, .int .i64 x2, .int .i64 x3, .int .i64 x4, .view tFrac xs], .box [.int .i64 y1, .int .i64 y2, .int .i64 y3, .int .i64 y4, .view tFrac ys]], [.bool r, .int .i64 i], []⟩ = .ite (decide (i < (↑xs.length : Int))) (.need ((0 : Int) ≤ i ∧ i < (↑xs.length : Int)) (.need ((0 : Int) ≤ i ∧ i < (↑ys.length : Int)) (.ite (!((getT tFrac xs i).fst == (getT tFrac ys i).fst && (getT tFrac xs i).snd == (getT tFrac ys i).snd)) (.leaf (.ret, ⟨[.ptr 2 0, .ptr 3 0], [.box [.int .i64 (x1), .int .i64 (x2), .int .i64 (x3), .int .i64 (x4), .view (I64.pair I64) (xs)], .box [.int .i64 (y1), .int .i64 (y2), .int .i64 (y3), .int .i64 (y4), .view (I64.pair I64) (ys)]], [.bool (false), .int .i64 (i)], []⟩)) (.need (inK IntKind.i64 (i + (1 : Int))) (.leaf (.normal, ⟨[.ptr 2 0, .ptr 3 0], [.box [.int .i64 (x1), .int .i64 (x2), .int .i64 (x3), .int .i64 (x4), .view (I64.pair I64) (xs)], .box [.int .i64 (y1), .int .i64 (y2), .int .i64 (y3), .int .i64 (y4), .view (I64.pair I64) (ys)]], [.bool (r), .int .i64 (i + (1 : Int))], []⟩)))))) (.leaf ((.exit 0), ⟨[.ptr 2 0, .ptr 3 0], [.box [.int .i64 (x1), .int .i64 (x2), .int .i64 (x3), .int .i64 (x4), .view (I64.pair I64) (xs)], .box [.int .i64 (y1), .int .i64 (y2), .int .i64 (y3), .int .i64 (y4), .view (I64.pair I64) (ys)]], [.bool (r), .int .i64 (i)], []⟩)) := by kernel_rfl
  rw [htree]
  clear htree
  replace hp : (0 ≤ i ∧ i ≤ (xs.length : Int)) ∧ xs.length = ys.length ∧ (xs.length : Int) ≤ 9223372036854775807 := hp
  simp only [Tree.ok, tyd_inj, packAV, AV.same, AV.same.sameL, encV, encS, enc, inK, Nd.ok, List.headD_cons, List.cons_append, List.nil_append, List.append_nil, true_and, and_true, Bool.true_and, Bool.and_true, loop_next, weakBs_nil, weakBs_cons, weakB_self, weakB_row, weakB_int, weakL_nil, weakL_unk, weakL_guess, isRow_own, isRow_unk, weakL_int, weakL_bool, weakL_str, weakL_own, weakL_view, weakL_nilS, noRow_int, noRow_bool, own_inj, LTree.val, cond_true, cond_false, Prod.mk.injEq, List.cons.injEq, AV.int.injEq, AV.bool.injEq, AV.str.injEq, AV.agg.injEq, ann_sSameTuning_0, decide_eq_true_eq, decide_eq_false_iff_not, bne_iff_ne, ne_eq, bne_eq_false_iff_eq, getT]
  refine ⟨fun ha => ?_, fun ha => ?_⟩
  · have h1 := drop_eq_iff xs ys i.toNat tFrac.zero (by omega) (by omega)
    simp only [Prod.ext_iff] at h1
    rw [show (i + 1).toNat = i.toNat + 1 by omega]
    repeat' first | apply And.intro | intro _
    all_goals first
      | omega
      | (rw [decide_eq_false (show ¬ (xs.drop i.toNat = ys.drop i.toNat) by grind)]; simp [Tree.ok, tyd_inj, packAV, AV.same, AV.same.sameL, encV, encS, enc, inK, Nd.ok, List.headD_cons, List.cons_append, List.nil_append, List.append_nil, true_and, and_true, Bool.true_and, Bool.and_true, loop_next, weakBs_nil, weakBs_cons, weakB_self, weakB_row, weakB_int, weakL_nil, weakL_unk, weakL_guess, isRow_own, isRow_unk, weakL_int, weakL_bool, weakL_str, weakL_own, weakL_view, weakL_nilS, noRow_int, noRow_bool, own_inj, LTree.val, cond_true, cond_false, Prod.mk.injEq, List.cons.injEq, AV.int.injEq, AV.bool.injEq, AV.str.injEq, AV.agg.injEq]; done)
      | rw [show decide (xs.drop i.toNat = ys.drop i.toNat) = decide (xs.drop (i.toNat + 1) = ys.drop (i.toNat + 1)) by grind]
  · have h1 : i.toNat = xs.length := by omega
    have h2 : xs.length = ys.length := by omega
    rw [h1, decide_eq_true (show xs.drop xs.length = ys.drop xs.length by rw [List.drop_length, h2, List.drop_length])]
    simp [Tree.ok, tyd_inj, packAV, AV.same, AV.same.sameL, encV, encS, enc, inK, Nd.ok, List.headD_cons, List.cons_append, List.nil_append, List.append_nil, true_and, and_true, Bool.true_and, Bool.and_true, loop_next, weakBs_nil, weakBs_cons, weakB_self, weakB_row, weakB_int, weakL_nil, weakL_unk, weakL_guess, isRow_own, isRow_unk, weakL_int, weakL_bool, weakL_str, weakL_own, weakL_view, weakL_nilS, noRow_int, noRow_bool, own_inj, LTree.val, cond_true, cond_false, Prod.mk.injEq, List.cons.injEq, AV.int.injEq, AV.bool.injEq, AV.str.injEq, AV.agg.injEq]
    omega
theorem loops_sSameTuning : ∀ c, Try.f26.body = some c → LoopsOk Try.prog (addL (firstId (loopAt Try.f26 0)) ann_sSameTuning_0 noL) Try.f26.ntmps c := loopsN fun i hi ann h => by
  have hn : loopN Try.f26 = 1 := by kernel_rfl
  rw [hn] at hi
  exact match i, hi, h with
    | 0, _, h => (Option.some.inj ((show (addL (firstId (loopAt Try.f26 0)) ann_sSameTuning_0 noL) (firstId (loopAt Try.f26 0)) = some ann_sSameTuning_0 from by kernel_rfl).symm.trans h)) ▸ loop_sSameTuning_0
set_option maxHeartbeats 1000000 in
theorem sat_sSameTuning : Sat Try.prog 26 ct_sSameTuning := by
  refine sat_typed (C := C_TmB) (L := (addL (firstId (loopAt Try.f26 0)) ann_sSameTuning_0 noL)) (wr := false) mixedOk Try.func26 C_TmB_ok (loops_sSameTuning) (fun _ => by first | rfl | (simp [ownsOf, ownsOf.ownsL, enc, encV, encS])) fun x hp => ?_
  obtain ⟨(x : tTuning.den), (y : tTuning.den), _⟩ := x
  replace hp : ((x.2.2 : List tFrac.den).length : Int) ≤ 9223372036854775807 := hp
  have htree : exFunc Try.prog C_TmB false (addL (firstId (loopAt Try.f26 0)) ann_sSameTuning_0 noL) Try.f26 (encA [.s tTuning, .s tTuning] (x, y, ())) = .ite (!(x.fst.fst == y.fst.fst && x.fst.snd == y.fst.snd)) (.leaf [.lit false]) (.ite (!(x.snd.fst.fst == y.snd.fst.fst && x.snd.fst.snd == y.snd.fst.snd)) (.leaf [.lit false]) (.ite ((↑(List.length x.snd.snd) : Int) != (↑(List.length y.snd.snd) : Int)) (.leaf [.lit false]) (.need (((0 : Int) ≤ (0 : Int) ∧ (0 : Int) ≤ (↑(List.length x.snd.snd) : Int)) ∧ List.length x.snd.snd = List.length y.snd.snd ∧ (↑(List.length x.snd.snd) : Int) ≤ (9223372036854775807 : Int)) (.ite (decide (List.drop (Int.toNat (0 : Int)) x.snd.snd = List.drop (Int.toNat (0 : Int)) y.snd.snd)) (.leaf [.lit true]) (.leaf [.bool (false)]))))) := by kernel_rfl
  refine (congrArg (Tree.ok _) htree).mpr ?_
  clear htree
  obtain ⟨⟨x1, x2⟩, ⟨x3, x4⟩, xs⟩ := x
  obtain ⟨⟨y1, y2⟩, ⟨y3, y4⟩, ys⟩ := y
  simp only [Tree.ok, tyd_inj, packAV, AV.same, AV.same.sameL, encV, encS, enc, inK, Nd.ok, List.headD_cons, List.cons_append, List.nil_append, List.append_nil, true_and, and_true, Bool.true_and, Bool.and_true, Int.toNat_zero, List.drop_zero, decide_eq_true_eq, decide_eq_false_iff_not, bne_iff_ne, ne_eq, bne_eq_false_iff_eq]
  repeat' first | apply And.intro | intro _
  all_goals first | omega | assumption | grind
def C_Tm_1 : FuncId → Option Ct := addC 26 ct_sSameTuning C_TmB
theorem C_Tm_1_ok : COk Try.prog C_Tm_1 := addC_ok C_TmB_ok sat_sSameTuning
def ann_lawModes_0 : LAnn := { sameS := [6, 7, 15, 17], modS := [19], sameH := [78, 83], modH := [], base := 900000, nilE := [], nilB := [], G := fun
  | ⟨[.int .i64 n, .int .i64 i, .row 78, .row 83], [.row (.pair (.int .i64) (.int .i64)) xs, .row (.pair (.int .i64) (.int .i64)) ys], [.int .i64 j], []⟩ => some (.p ((0 ≤ j ∧ j ≤ n) ∧ (0 ≤ i ∧ i < n) ∧ n ≤ 24 ∧ (xs.length : Int) = n ∧ (ys.length : Int) = n ∧ ∀ m, m < xs.length → atF ys m = atF xs ((i.toNat + m) % xs.length)), .leaf (.exit 0) [.unk] [])
  | _ => none }
def ct_lawModes : Ct := ctOf [.v (.seq (.int .u8)), .v (.seq (.int .u8))] (fun ((code : List (Ty.int .u8).den), (more : List (Ty.int .u8).den), _) => .p (bytesOk code ∧ bytesOk more)) (fun ((code : List (Ty.int .u8).den), (more : List (Ty.int .u8).den), _) => .bool true)
set_option maxHeartbeats 1000000 in
theorem loop_lawModes_0 : LoopSat Try.prog Try.f4.ntmps (loopAt Try.f4 0) ann_lawModes_0 := by
  refine loopSat_of (C := C_Tm_1) (L := (addL (firstId (loopAt Try.f4 0)) ann_lawModes_0 noL)) (wr := false) mixedOk C_Tm_1_ok (loopsIn0 (by kernel_rfl)) (fun d => match d.same, d.vals with | [.int _ n, _, _, _], [.int _ j] => (n - j).toNat | _, _ => 0) fun d p t hG hp => ?_
  simp only [ann_lawModes_0] at hG
  split at hG
  rotate_left
  · simp at hG
  rename_i n i xs ys j
  simp only [Option.some.injEq, Prod.mk.injEq] at hG
  obtain ⟨rfl, rfl⟩ := hG
  have htree : exRound Try.prog C_Tm_1 false (addL (firstId (loopAt Try.f4 0)) ann_lawModes_0 noL) Try.f4.ntmps ann_lawModes_0 (loopAt Try.f4 0) ⟨[.int .i64 n, .int .i64 i, .row 78, .row 83], [.row tFrac xs, .row tFrac ys], [.int .i64 j], []⟩ = .ite (decide (j < n)) (.need ((0 : Int) ≤ j ∧ j < (↑ys.length : Int)) (.need (j.toNat < ys.length) (.need (inK IntKind.i64 (i + j)) (.need (n ≠ (0 : Int)) (.need ((0 : Int) ≤ (i + j).tmod n ∧ (i + j).tmod n < (↑xs.length : Int)) (.need (((i + j).tmod n).toNat < xs.length) (.ite (!((ys.getD j.toNat tFrac.zero).fst == (xs.getD ((i + j).tmod n).toNat tFrac.zero).fst && (ys.getD j.toNat tFrac.zero).snd == (xs.getD ((i + j).tmod n).toNat tFrac.zero).snd)) (.leaf (.ret, ⟨[.int .i64 (n), .int .i64 (i), .row 78, .row 83], [.row (I64.pair I64) (xs), .row (I64.pair I64) (ys)], [.int .i64 (j)], []⟩)) (.need (inK IntKind.i64 (j + (1 : Int))) (.leaf (.normal, ⟨[.int .i64 (n), .int .i64 (i), .row 78, .row 83], [.row (I64.pair I64) (xs), .row (I64.pair I64) (ys)], [.int .i64 (j + (1 : Int))], []⟩)))))))))) (.leaf ((.exit 0), ⟨[.int .i64 (n), .int .i64 (i), .row 78, .row 83], [.row (I64.pair I64) (xs), .row (I64.pair I64) (ys)], [.int .i64 (j)], []⟩)) := by kernel_rfl
  rw [htree]
  clear htree
  replace hp : (0 ≤ j ∧ j ≤ n) ∧ (0 ≤ i ∧ i < n) ∧ n ≤ 24 ∧ (xs.length : Int) = n ∧ (ys.length : Int) = n ∧ ∀ m, m < xs.length → atF ys m = atF xs ((i.toNat + m) % xs.length) := hp
  obtain ⟨hj, hi, hn, hx, hy, hm⟩ := hp
  simp only [Tree.ok, tyd_inj, packAV, AV.same, AV.same.sameL, encV, encS, enc, inK, Nd.ok, List.headD_cons, List.cons_append, List.nil_append, List.append_nil, true_and, and_true, Bool.true_and, Bool.and_true, loop_next, weakBs_nil, weakBs_cons, weakB_self, weakB_row, weakB_int, weakL_nil, weakL_unk, weakL_guess, isRow_own, isRow_unk, weakL_int, weakL_bool, weakL_str, weakL_own, weakL_view, weakL_nilS, noRow_int, noRow_bool, own_inj, LTree.val, cond_true, cond_false, Prod.mk.injEq, List.cons.injEq, AV.int.injEq, AV.bool.injEq, AV.str.injEq, AV.agg.injEq, ann_lawModes_0, decide_eq_true_eq, decide_eq_false_iff_not]
  refine ⟨fun h => ?_, fun h => ?_⟩
  · have e : (i + j).tmod n = (i + j) % n := Int.tmod_eq_emod_of_nonneg (by omega)
    have e0 := Int.emod_nonneg (i + j) (b := n) (by omega)
    have e1 := Int.emod_lt_of_pos (i + j) (b := n) (by omega)
    have e2 : ((i + j) % n).toNat = (i.toNat + j.toNat) % xs.length := by
      rw [show i + j = ((i.toNat + j.toNat : Nat) : Int) by omega, ← hx, ← Int.natCast_emod, Int.toNat_natCast]
    have hv := hm j.toNat (by omega)
    rw [← e2] at hv
    rw [e]
    have hv1 : (ys.getD j.toNat tFrac.zero).1 = (xs.getD ((i + j) % n).toNat tFrac.zero).1 := congrArg Prod.fst hv
    have hv2 : (ys.getD j.toNat tFrac.zero).2 = (xs.getD ((i + j) % n).toNat tFrac.zero).2 := congrArg Prod.snd hv
    refine ⟨by omega, by omega, by omega, by omega, by omega, by omega, fun hf => ?_, fun _ => ?_⟩
    · rw [hv1, hv2] at hf
      simp at hf
    · repeat' first | apply And.intro | intro _
      all_goals first | omega | trivial | exact hm _ ‹_›
  · trivial
theorem loops_lawModes : ∀ c, Try.f4.body = some c → LoopsOk Try.prog (addL (firstId (loopAt Try.f4 0)) ann_lawModes_0 noL) Try.f4.ntmps c := loopsN fun i hi ann h => by
  have hn : loopN Try.f4 = 1 := by kernel_rfl
  rw [hn] at hi
  exact match i, hi, h with
    | 0, _, h => (Option.some.inj ((show (addL (firstId (loopAt Try.f4 0)) ann_lawModes_0 noL) (firstId (loopAt Try.f4 0)) = some ann_lawModes_0 from by kernel_rfl).symm.trans h)) ▸ loop_lawModes_0
set_option maxHeartbeats 1000000 in
theorem sat_lawModes : Sat Try.prog 4 ct_lawModes := by
  refine sat_typed (C := C_Tm_1) (L := (addL (firstId (loopAt Try.f4 0)) ann_lawModes_0 noL)) (wr := false) mixedOk Try.func4 C_Tm_1_ok (loops_lawModes) (fun _ => by first | rfl | (simp [ownsOf, ownsOf.ownsL, enc, encV, encS])) fun x hp => ?_
  obtain ⟨(code : List (Ty.int .u8).den), (more : List (Ty.int .u8).den), _⟩ := x
  replace hp : bytesOk code ∧ bytesOk more := hp
  have htree : exFunc Try.prog C_Tm_1 false (addL (firstId (loopAt Try.f4 0)) ann_lawModes_0 noL) Try.f4 (encA [.v (.seq (.int .u8)), .v (.seq (.int .u8))] (code, more, ())) = .ite (decide ((3000 : Int) < (↑code.length : Int)) || decide ((3000 : Int) < (↑more.length : Int))) (.leaf [.lit true]) (.need (bytesOk code) (.need (bytesOk more ∧ (0 : Int) ≤ (0 : Int)) (.need (bytesOk more ∧ (0 : Int) ≤ (1 : Int)) (.need (List.length (A2U code).snd.snd ≤ (16777215 : Nat)) (.ite ((modeF (A2U code) (a2At more (0 : Int) (↑(List.length (A2U code).snd.snd) : Int))).snd != (0 : Int)) (.ite ((modeF (A2U code) (a2At more (0 : Int) (↑(List.length (A2U code).snd.snd) : Int))).snd == (2 : Int)) (.leaf [.bool (decide ((0 : Int) < a2At more (0 : Int) (↑(List.length (A2U code).snd.snd) : Int)))]) (.leaf [.lit false])) (.need (List.length (modeF (A2U code) (a2At more (0 : Int) (↑(List.length (A2U code).snd.snd) : Int))).fst.snd.snd ≤ (16777215 : Nat)) (.need (inK IntKind.i64 (a2At more (0 : Int) (↑(List.length (A2U code).snd.snd) : Int) + a2At more (1 : Int) (↑(List.length (A2U code).snd.snd) : Int))) (.need ((↑(List.length (A2U code).snd.snd) : Int) ≠ (0 : Int)) (.need (List.length (A2U code).snd.snd ≤ (16777215 : Nat)) (.ite ((modeF (modeF (A2U code) (a2At more (0 : Int) (↑(List.length (A2U code).snd.snd) : Int))).fst (a2At more (1 : Int) (↑(List.length (A2U code).snd.snd) : Int))).snd == (0 : Int)) (.ite ((modeF (A2U code) ((a2At more (0 : Int) (↑(List.length (A2U code).snd.snd) : Int) + a2At more (1 : Int) (↑(List.length (A2U code).snd.snd) : Int)).tmod (↑(List.length (A2U code).snd.snd) : Int))).snd == (0 : Int)) (.need ((↑(List.length (modeF (modeF (A2U code) (a2At more (0 : Int) (↑(List.length (A2U code).snd.snd) : Int))).fst (a2At more (1 : Int) (↑(List.length (A2U code).snd.snd) : Int))).fst.snd.snd) : Int) ≤ (9223372036854775807 : Int)) (.ite (!decide (((modeF (modeF (A2U code) (a2At more (0 : Int) (↑(List.length (A2U code).snd.snd) : Int))).fst (a2At more (1 : Int) (↑(List.length (A2U code).snd.snd) : Int))).fst.fst.fst = (modeF (A2U code) ((a2At more (0 : Int) (↑(List.length (A2U code).snd.snd) : Int) + a2At more (1 : Int) (↑(List.length (A2U code).snd.snd) : Int)).tmod (↑(List.length (A2U code).snd.snd) : Int))).fst.fst.fst ∧ (modeF (modeF (A2U code) (a2At more (0 : Int) (↑(List.length (A2U code).snd.snd) : Int))).fst (a2At more (1 : Int) (↑(List.length (A2U code).snd.snd) : Int))).fst.fst.snd = (modeF (A2U code) ((a2At more (0 : Int) (↑(List.length (A2U code).snd.snd) : Int) + a2At more (1 : Int) (↑(List.length (A2U code).snd.snd) : Int)).tmod (↑(List.length (A2U code).snd.snd) : Int))).fst.fst.snd) ∧ ((modeF (modeF (A2U code) (a2At more (0 : Int) (↑(List.length (A2U code).snd.snd) : Int))).fst (a2At more (1 : Int) (↑(List.length (A2U code).snd.snd) : Int))).fst.snd.fst.fst = (modeF (A2U code) ((a2At more (0 : Int) (↑(List.length (A2U code).snd.snd) : Int) + a2At more (1 : Int) (↑(List.length (A2U code).snd.snd) : Int)).tmod (↑(List.length (A2U code).snd.snd) : Int))).fst.snd.fst.fst ∧ (modeF (modeF (A2U code) (a2At more (0 : Int) (↑(List.length (A2U code).snd.snd) : Int))).fst (a2At more (1 : Int) (↑(List.length (A2U code).snd.snd) : Int))).fst.snd.fst.snd = (modeF (A2U code) ((a2At more (0 : Int) (↑(List.length (A2U code).snd.snd) : Int) + a2At more (1 : Int) (↑(List.length (A2U code).snd.snd) : Int)).tmod (↑(List.length (A2U code).snd.snd) : Int))).fst.snd.fst.snd) ∧ (modeF (modeF (A2U code) (a2At more (0 : Int) (↑(List.length (A2U code).snd.snd) : Int))).fst (a2At more (1 : Int) (↑(List.length (A2U code).snd.snd) : Int))).fst.snd.snd = (modeF (A2U code) ((a2At more (0 : Int) (↑(List.length (A2U code).snd.snd) : Int) + a2At more (1 : Int) (↑(List.length (A2U code).snd.snd) : Int)).tmod (↑(List.length (A2U code).snd.snd) : Int))).fst.snd.snd)) (.leaf [.lit false]) (.need (List.length (A2U code).snd.snd ≤ (16777215 : Nat)) (.need (List.length (modeF (A2U code) (a2At more (0 : Int) (↑(List.length (A2U code).snd.snd) : Int))).fst.snd.snd ≤ (16777215 : Nat)) (.ite ((stepsF (A2U code)).snd != (0 : Int)) (.ite ((stepsF (A2U code)).snd != (0 : Int)) (.ite ((stepsF (A2U code)).snd == (2 : Int)) (.leaf [.lit true]) (.leaf [.bool ((stepsF (modeF (A2U code) (a2At more (0 : Int) (↑(List.length (A2U code).snd.snd) : Int))).fst).snd == (2 : Int))])) (.leaf [.bool ((stepsF (modeF (A2U code) (a2At more (0 : Int) (↑(List.length (A2U code).snd.snd) : Int))).fst).snd == (2 : Int))])) (.ite ((stepsF (modeF (A2U code) (a2At more (0 : Int) (↑(List.length (A2U code).snd.snd) : Int))).fst).snd != (0 : Int)) (.ite ((stepsF (A2U code)).snd != (0 : Int)) (.ite ((stepsF (A2U code)).snd == (2 : Int)) (.leaf [.lit true]) (.leaf [.bool ((stepsF (modeF (A2U code) (a2At more (0 : Int) (↑(List.length (A2U code).snd.snd) : Int))).fst).snd == (2 : Int))])) (.leaf [.bool ((stepsF (modeF (A2U code) (a2At more (0 : Int) (↑(List.length (A2U code).snd.snd) : Int))).fst).snd == (2 : Int))])) (.ite ((↑(stepsF (A2U code)).fst.length : Int) != (↑(List.length (A2U code).snd.snd) : Int)) (.leaf [.lit false]) (.ite ((↑(stepsF (modeF (A2U code) (a2At more (0 : Int) (↑(List.length (A2U code).snd.snd) : Int))).fst).fst.length : Int) != (↑(List.length (A2U code).snd.snd) : Int)) (.leaf [.lit false]) (.need (((0 : Int) ≤ (0 : Int) ∧ (0 : Int) ≤ (↑(List.length (A2U code).snd.snd) : Int)) ∧ ((0 : Int) ≤ a2At more (0 : Int) (↑(List.length (A2U code).snd.snd) : Int) ∧ a2At more (0 : Int) (↑(List.length (A2U code).snd.snd) : Int) < (↑(List.length (A2U code).snd.snd) : Int)) ∧ (↑(List.length (A2U code).snd.snd) : Int) ≤ (24 : Int) ∧ (↑(stepsF (A2U code)).fst.length : Int) = (↑(List.length (A2U code).snd.snd) : Int) ∧ (↑(stepsF (modeF (A2U code) (a2At more (0 : Int) (↑(List.length (A2U code).snd.snd) : Int))).fst).fst.length : Int) = (↑(List.length (A2U code).snd.snd) : Int) ∧ ∀ (m : Nat), m < (stepsF (A2U code)).fst.length → atF (stepsF (modeF (A2U code) (a2At more (0 : Int) (↑(List.length (A2U code).snd.snd) : Int))).fst).fst m = atF (stepsF (A2U code)).fst (((a2At more (0 : Int) (↑(List.length (A2U code).snd.snd) : Int)).toNat + m) % (stepsF (A2U code)).fst.length)) (.leaf [.lit true])))))))))) (.need (List.length (A2U code).snd.snd ≤ (16777215 : Nat)) (.need (List.length (modeF (A2U code) (a2At more (0 : Int) (↑(List.length (A2U code).snd.snd) : Int))).fst.snd.snd ≤ (16777215 : Nat)) (.ite ((stepsF (A2U code)).snd != (0 : Int)) (.ite ((stepsF (A2U code)).snd != (0 : Int)) (.ite ((stepsF (A2U code)).snd == (2 : Int)) (.leaf [.lit true]) (.leaf [.bool ((stepsF (modeF (A2U code) (a2At more (0 : Int) (↑(List.length (A2U code).snd.snd) : Int))).fst).snd == (2 : Int))])) (.leaf [.bool ((stepsF (modeF (A2U code) (a2At more (0 : Int) (↑(List.length (A2U code).snd.snd) : Int))).fst).snd == (2 : Int))])) (.ite ((stepsF (modeF (A2U code) (a2At more (0 : Int) (↑(List.length (A2U code).snd.snd) : Int))).fst).snd != (0 : Int)) (.ite ((stepsF (A2U code)).snd != (0 : Int)) (.ite ((stepsF (A2U code)).snd == (2 : Int)) (.leaf [.lit true]) (.leaf [.bool ((stepsF (modeF (A2U code) (a2At more (0 : Int) (↑(List.length (A2U code).snd.snd) : Int))).fst).snd == (2 : Int))])) (.leaf [.bool ((stepsF (modeF (A2U code) (a2At more (0 : Int) (↑(List.length (A2U code).snd.snd) : Int))).fst).snd == (2 : Int))])) (.ite ((↑(stepsF (A2U code)).fst.length : Int) != (↑(List.length (A2U code).snd.snd) : Int)) (.leaf [.lit false]) (.ite ((↑(stepsF (modeF (A2U code) (a2At more (0 : Int) (↑(List.length (A2U code).snd.snd) : Int))).fst).fst.length : Int) != (↑(List.length (A2U code).snd.snd) : Int)) (.leaf [.lit false]) (.need (((0 : Int) ≤ (0 : Int) ∧ (0 : Int) ≤ (↑(List.length (A2U code).snd.snd) : Int)) ∧ ((0 : Int) ≤ a2At more (0 : Int) (↑(List.length (A2U code).snd.snd) : Int) ∧ a2At more (0 : Int) (↑(List.length (A2U code).snd.snd) : Int) < (↑(List.length (A2U code).snd.snd) : Int)) ∧ (↑(List.length (A2U code).snd.snd) : Int) ≤ (24 : Int) ∧ (↑(stepsF (A2U code)).fst.length : Int) = (↑(List.length (A2U code).snd.snd) : Int) ∧ (↑(stepsF (modeF (A2U code) (a2At more (0 : Int) (↑(List.length (A2U code).snd.snd) : Int))).fst).fst.length : Int) = (↑(List.length (A2U code).snd.snd) : Int) ∧ ∀ (m : Nat), m < (stepsF (A2U code)).fst.length → atF (stepsF (modeF (A2U code) (a2At more (0 : Int) (↑(List.length (A2U code).snd.snd) : Int))).fst).fst m = atF (stepsF (A2U code)).fst (((a2At more (0 : Int) (↑(List.length (A2U code).snd.snd) : Int)).toNat + m) % (stepsF (A2U code)).fst.length)) (.leaf [.lit true]))))))))) (.need (List.length (A2U code).snd.snd ≤ (16777215 : Nat)) (.need (List.length (modeF (A2U code) (a2At more (0 : Int) (↑(List.length (A2U code).snd.snd) : Int))).fst.snd.snd ≤ (16777215 : Nat)) (.ite ((stepsF (A2U code)).snd != (0 : Int)) (.ite ((stepsF (A2U code)).snd != (0 : Int)) (.ite ((stepsF (A2U code)).snd == (2 : Int)) (.leaf [.lit true]) (.leaf [.bool ((stepsF (modeF (A2U code) (a2At more (0 : Int) (↑(List.length (A2U code).snd.snd) : Int))).fst).snd == (2 : Int))])) (.leaf [.bool ((stepsF (modeF (A2U code) (a2At more (0 : Int) (↑(List.length (A2U code).snd.snd) : Int))).fst).snd == (2 : Int))])) (.ite ((stepsF (modeF (A2U code) (a2At more (0 : Int) (↑(List.length (A2U code).snd.snd) : Int))).fst).snd != (0 : Int)) (.ite ((stepsF (A2U code)).snd != (0 : Int)) (.ite ((stepsF (A2U code)).snd == (2 : Int)) (.leaf [.lit true]) (.leaf [.bool ((stepsF (modeF (A2U code) (a2At more (0 : Int) (↑(List.length (A2U code).snd.snd) : Int))).fst).snd == (2 : Int))])) (.leaf [.bool ((stepsF (modeF (A2U code) (a2At more (0 : Int) (↑(List.length (A2U code).snd.snd) : Int))).fst).snd == (2 : Int))])) (.ite ((↑(stepsF (A2U code)).fst.length : Int) != (↑(List.length (A2U code).snd.snd) : Int)) (.leaf [.lit false]) (.ite ((↑(stepsF (modeF (A2U code) (a2At more (0 : Int) (↑(List.length (A2U code).snd.snd) : Int))).fst).fst.length : Int) != (↑(List.length (A2U code).snd.snd) : Int)) (.leaf [.lit false]) (.need (((0 : Int) ≤ (0 : Int) ∧ (0 : Int) ≤ (↑(List.length (A2U code).snd.snd) : Int)) ∧ ((0 : Int) ≤ a2At more (0 : Int) (↑(List.length (A2U code).snd.snd) : Int) ∧ a2At more (0 : Int) (↑(List.length (A2U code).snd.snd) : Int) < (↑(List.length (A2U code).snd.snd) : Int)) ∧ (↑(List.length (A2U code).snd.snd) : Int) ≤ (24 : Int) ∧ (↑(stepsF (A2U code)).fst.length : Int) = (↑(List.length (A2U code).snd.snd) : Int) ∧ (↑(stepsF (modeF (A2U code) (a2At more (0 : Int) (↑(List.length (A2U code).snd.snd) : Int))).fst).fst.length : Int) = (↑(List.length (A2U code).snd.snd) : Int) ∧ ∀ (m : Nat), m < (stepsF (A2U code)).fst.length → atF (stepsF (modeF (A2U code) (a2At more (0 : Int) (↑(List.length (A2U code).snd.snd) : Int))).fst).fst m = atF (stepsF (A2U code)).fst (((a2At more (0 : Int) (↑(List.length (A2U code).snd.snd) : Int)).toNat + m) % (stepsF (A2U code)).fst.length)) (.leaf [.lit true])))))))))))))))))) := by kernel_rfl
  refine (congrArg (Tree.ok _) htree).mpr ?_
  clear htree
  have ht := A2U_valid hp.1
  obtain ⟨hc, hm⟩ := hp
  have m0 : bytesOk more ∧ (0 : Int) ≤ 0 := ⟨hm, by decide⟩
  have m1 : bytesOk more ∧ (0 : Int) ≤ 1 := ⟨hm, by decide⟩
  generalize A2U code = U at *
  obtain ⟨b, o, rs⟩ := U
  change List tFrac.den at rs
  have tb : okF b.1 b.2 = true ∧ okF o.1 o.2 = true ∧ 1 ≤ rs.length ∧ rs.length ≤ 24 := tune_bd ht
  have hi := a2At_bd hm (i := 0) (by omega) (rs.length : Int)
  have hk := a2At_bd hm (i := 1) (by omega) (rs.length : Int)
  simp only [Tree.ok, tyd_inj, packAV, AV.same, AV.same.sameL, encV, encS, enc, inK, Nd.ok, List.headD_cons, List.cons_append, List.nil_append, List.append_nil, true_and, and_true, Bool.true_and, Bool.and_true, bne_iff_ne, ne_eq, bne_eq_false_iff_eq, beq_iff_eq, beq_eq_false_iff_ne, decide_eq_true_eq, decide_eq_false_iff_not]
  generalize a2At more 0 (rs.length : Int) = i at *
  generalize a2At more 1 (rs.length : Int) = k at *
  have hi : 0 ≤ i ∧ i ≤ (rs.length : Int) - 1 := ⟨hi.1, hi.2 (by omega)⟩
  have hk : 0 ≤ k ∧ k ≤ (rs.length : Int) - 1 := ⟨hk.1, hk.2 (by omega)⟩
  have e1 : (i + k).tmod (rs.length : Int) = (i + k) % (rs.length : Int) := Int.tmod_eq_emod_of_nonneg (by omega)
  rw [e1]
  have s1 := modeF_spec ht hi
  have s0 : i = 0 → (modeF (b, o, rs) i).2 = 0 := fun h => by rw [h]; exact modeF_zero ht
  have mm := mode_mode ht hi hk
  have ss := steps_mode ht hi
  have s2 := stepsF_spec ht
  by_cases c1 : (modeF (b, o, rs) i).2 = 0
  · obtain ⟨us, ea, la, ta, qa⟩ := s1.2 c1
    have s3 := stepsF_spec ta
    have eM : modeF (b, o, rs) i = ((b, o, us), 0) := Prod.ext ea c1
    rw [eM] at mm ss ⊢
    clear s0 s1 ea c1 eM qa
    have l2 := modeF_len (b, o, us) k
    have l3 := modeF_len (b, o, rs) ((i + k) % (rs.length : Int))
    simp only at mm ss ⊢
    generalize modeF (b, o, us) k = M2 at *
    generalize modeF (b, o, rs) ((i + k) % (rs.length : Int)) = M3 at *
    generalize stepsF (b, o, rs) = X at *
    generalize stepsF (b, o, us) = Y at *
    have hss : X.2 = 0 → Y.2 = 0 → ∀ m, m < X.1.length → atF Y.1 m = atF X.1 ((i.toNat + m) % X.1.length) := fun h1 h2 m hm => by
      have g := ss trivial h1 h2
      rw [g.1] at hm ⊢
      exact g.2.2 m hm
    have hl : X.2 = 0 → X.1.length = rs.length := fun h => (s2.2 h).1
    have hl2 : Y.2 = 0 → Y.1.length = us.length := fun h => (s3.2 h).1
    have sx := s2.1
    have sy := s3.1
    have mm : M2.2 = 0 → M3.2 = 0 → (!decide ((M2.1.1.1 = M3.1.1.1 ∧ M2.1.1.2 = M3.1.1.2) ∧ (M2.1.2.1.1 = M3.1.2.1.1 ∧ M2.1.2.1.2 = M3.1.2.1.2) ∧ M2.1.2.2 = M3.1.2.2)) = true → False := fun h1 h2 h3 => by
      rw [mm trivial h1 h2] at h3
      simp at h3
    clear s2 s3 ss
    repeat' first | apply And.intro | intro _
    all_goals first | omega | assumption | trivial | exact hss ‹_› ‹_› _ ‹_› | exact (mm ‹_› ‹_› ‹_›).elim | (have := hl ‹_›; omega) | (have := hl2 ‹_›; omega) | exact (hc _ ‹_›).1 | exact (hc _ ‹_›).2 | exact (hm _ ‹_›).1 | exact (hm _ ‹_›).2
  · have c2 := s1.1.resolve_left c1
    clear mm ss s2 s1
    generalize modeF (b, o, rs) i = M1 at *
    repeat' first | apply And.intro | intro _
    all_goals first | omega | assumption | trivial | contradiction | exact (hc _ ‹_›).1 | exact (hc _ ‹_›).2 | exact (hm _ ‹_›).1 | exact (hm _ ‹_›).2 | (exfalso; omega)
def C_Tm_2 : FuncId → Option Ct := addC 4 ct_lawModes C_Tm_1
theorem C_Tm_2_ok : COk Try.prog C_Tm_2 := addC_ok C_Tm_1_ok sat_lawModes

def C_Tm : FuncId → Option Ct := C_Tm_2
theorem C_Tm_ok : COk Try.prog C_Tm := C_Tm_2_ok
end Go.Proofs.Ytjgjcggecikdpaa
