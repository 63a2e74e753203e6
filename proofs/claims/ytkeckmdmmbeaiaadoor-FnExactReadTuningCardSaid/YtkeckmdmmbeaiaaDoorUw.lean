/- Contracts: texts split into words, by the program and the reference. Conditions: as each says. -/
import Derived.Test.YtkeckmdmmbeaiaaDoorXf
set_option linter.unusedSimpArgs false
set_option linter.unusedVariables false
namespace Go.Proofs.YtkeckmdmmbeaiaaDoor
open Go.RowKit Sx
set_option maxRecDepth 100000
set_option maxHeartbeats 1000000
def C_UwB : FuncId → Option Ct := addC 129 ct_Split noC
theorem C_UwB_ok : COk Tryd.prog C_UwB := addC_ok (noC_ok Tryd.prog) sat_Split
def someF (ws : List Bs) : List Bs := ws.filter fun w => !decide (w = [])
theorem someF_at (ws : List Bs) (i : Nat) (h : i < ws.length) : someF (ws.drop i) = (if ws.getD i [] = [] then [] else [ws.getD i []]) ++ someF (ws.drop (i + 1)) := by
  unfold someF
  rw [List.drop_eq_getElem_cons h, getD_lt _ _ _ h, List.filter_cons]
  by_cases e : ws[i] = [] <;> simp [e]
def ann_SplitWords_0 : LAnn := { sameS := [8, 9], modS := [2, 3, 10], sameH := [], modH := [], base := 900000, nilE := [], nilB := [], G := fun
  | ⟨[.view .str ws, .int .i64 n], [], [.nilS, .own .str out, .int .i64 i], []⟩ => some (.p (n = (ws.length : Int) ∧ (0 ≤ i ∧ i ≤ n) ∧ n ≤ 2000001 ∧ (out.length : Int) ≤ i), .leaf (.exit 0) [.nilS, .own .str (out ++ someF (ws.drop i.toNat)), .unk] [])
  | _ => none }
def ct_SplitWords : Ct := ctOf [.v .str] (fun ((s : List UInt8), _) => .p (s.length ≤ 2000000)) (fun ((s : List UInt8), _) => .own .str (wordsF s))
set_option maxHeartbeats 1000000 in
theorem loop_SplitWords_0 : LoopSat Tryd.prog Tryd.f87.ntmps (loopAt Tryd.f87 0) ann_SplitWords_0 := by
  refine loopSat_of (C := C_UwB) (L := (addL (firstId (loopAt Tryd.f87 0)) ann_SplitWords_0 noL)) (wr := false) mixedOk C_UwB_ok (loopsIn0 (by kernel_rfl)) (fun d => match d.same, d.vals with | [_, .int _ n], [_, _, .int _ i] => (n - i).toNat | _, _ => 0) fun d p t hG hp => ?_
  simp only [ann_SplitWords_0] at hG
  split at hG
  rotate_left
  · simp at hG
  rename_i ws n out i
  simp only [Option.some.injEq, Prod.mk.injEq] at hG
  obtain ⟨rfl, rfl⟩ := hG
  have htree : exRound Tryd.prog C_UwB false (addL (firstId (loopAt Tryd.f87 0)) ann_SplitWords_0 noL) Tryd.f87.ntmps ann_SplitWords_0 (loopAt Tryd.f87 0) ⟨[.view .str ws, .int .i64 n], [], [.nilS, .own .str out, .int .i64 i], []⟩ = .ite (decide (i < n)) (.need ((0 : Int) ≤ i ∧ i < (↑ws.length : Int)) (.ite (!decide (getT Ty.str ws i = #[].toList)) (.need (out.length + [getT Ty.str ws i].length ≤ (16777216 : Nat)) (.need (inK IntKind.i64 (i + (1 : Int))) (.leaf (.normal, ⟨[.view (Ty.str) (ws), .int .i64 (n)], [], [.nilS, .own (Ty.str) (out ++ [getT Ty.str ws i]), .int .i64 (i + (1 : Int))], []⟩)))) (.need (inK IntKind.i64 (i + (1 : Int))) (.leaf (.normal, ⟨[.view (Ty.str) (ws), .int .i64 (n)], [], [.nilS, .own (Ty.str) (out), .int .i64 (i + (1 : Int))], []⟩))))) (.leaf ((.exit 0), ⟨[.view (Ty.str) (ws), .int .i64 (n)], [], [.nilS, .own (Ty.str) (out), .int .i64 (i)], []⟩)) := by kernel_rfl
  rw [htree]
  clear htree
  replace hp : n = (ws.length : Int) ∧ (0 ≤ i ∧ i ≤ n) ∧ n ≤ 2000001 ∧ (out.length : Int) ≤ i := hp
  obtain ⟨rfl, hi, hn, ho⟩ := hp
  have hz : ∀ (k : Int), getT .str ws k = ws.getD k.toNat [] := fun _ => rfl
  have s0 : #[].toList = ([] : List UInt8) := rfl
  simp only [Tree.ok, tyd_inj, packAV, AV.same, AV.same.sameL, encV, encS, enc, inK, Nd.ok, List.headD_cons, List.cons_append, List.nil_append, List.append_nil, true_and, and_true, Bool.true_and, Bool.and_true, loop_next, weakBs_nil, weakBs_cons, weakB_self, weakB_row, weakB_int, weakL_nil, weakL_unk, weakL_guess, isRow_own, isRow_unk, weakL_int, weakL_bool, weakL_str, weakL_own, weakL_view, weakL_nilS, noRow_int, noRow_bool, own_inj, LTree.val, cond_true, cond_false, Prod.mk.injEq, List.cons.injEq, AV.int.injEq, AV.bool.injEq, AV.str.injEq, AV.agg.injEq, ann_SplitWords_0, hz, s0, decide_eq_true_eq, decide_eq_false_iff_not]
  refine ⟨fun ha => ?_, fun ha => ?_⟩
  · rw [someF_at ws i.toNat (by omega), show (i + 1).toNat = i.toNat + 1 by omega]
    by_cases he : ws.getD i.toNat [] = []
    · simp only [he, if_true, List.nil_append]
      repeat' first | apply And.intro | intro _
      all_goals first | omega | trivial | rfl | contradiction | (simp_all; done) | (simp; omega) | (trace_state; fail)
    · simp only [he, if_false, List.length_append, List.length_cons, List.length_nil, List.append_assoc]
      repeat' first | apply And.intro | intro _
      all_goals first | omega | trivial | rfl | contradiction | (simp_all; done) | (simp; omega) | (trace_state; fail)
  · rw [List.drop_eq_nil_of_le (by omega)]
    simp [Tree.ok, tyd_inj, packAV, AV.same, AV.same.sameL, encV, encS, enc, inK, Nd.ok, List.headD_cons, List.cons_append, List.nil_append, List.append_nil, true_and, and_true, Bool.true_and, Bool.and_true, loop_next, weakBs_nil, weakBs_cons, weakB_self, weakB_row, weakB_int, weakL_nil, weakL_unk, weakL_guess, isRow_own, isRow_unk, weakL_int, weakL_bool, weakL_str, weakL_own, weakL_view, weakL_nilS, noRow_int, noRow_bool, own_inj, LTree.val, cond_true, cond_false, Prod.mk.injEq, List.cons.injEq, AV.int.injEq, AV.bool.injEq, AV.str.injEq, AV.agg.injEq, someF]
theorem loops_SplitWords : ∀ c, Tryd.f87.body = some c → LoopsOk Tryd.prog (addL (firstId (loopAt Tryd.f87 0)) ann_SplitWords_0 noL) Tryd.f87.ntmps c := loopsN fun i hi ann h => by
  have hn : loopN Tryd.f87 = 1 := by kernel_rfl
  rw [hn] at hi
  exact match i, hi, h with
    | 0, _, h => (Option.some.inj ((show (addL (firstId (loopAt Tryd.f87 0)) ann_SplitWords_0 noL) (firstId (loopAt Tryd.f87 0)) = some ann_SplitWords_0 from by kernel_rfl).symm.trans h)) ▸ loop_SplitWords_0
set_option maxHeartbeats 1000000 in
theorem sat_SplitWords : Sat Tryd.prog 87 ct_SplitWords := by
  refine sat_typed (C := C_UwB) (L := (addL (firstId (loopAt Tryd.f87 0)) ann_SplitWords_0 noL)) (wr := false) mixedOk Tryd.func87 C_UwB_ok (loops_SplitWords) (fun _ => by first | rfl | (simp [ownsOf, ownsOf.ownsL, enc, encV, encS])) fun x hp => ?_
  obtain ⟨(s : List UInt8), _⟩ := x
  replace hp : s.length ≤ 2000000 := hp
  have htree : exFunc Tryd.prog C_UwB false (addL (firstId (loopAt Tryd.f87 0)) ann_SplitWords_0 noL) Tryd.f87 (encA [.v .str] (s, ())) = .need (s.length ≤ (4000000000 : Nat) ∧ (1 : Nat) ≤ #[(32 : UInt8)].toList.length) (.need ((↑(Lib.split s #[(32 : UInt8)].toList).length : Int) = (↑(Lib.split s #[(32 : UInt8)].toList).length : Int) ∧ ((0 : Int) ≤ (0 : Int) ∧ (0 : Int) ≤ (↑(Lib.split s #[(32 : UInt8)].toList).length : Int)) ∧ (↑(Lib.split s #[(32 : UInt8)].toList).length : Int) ≤ (2000001 : Int) ∧ (↑(0 : Nat) : Int) ≤ (0 : Int)) (.leaf [.own (Ty.str) ([] ++ someF (List.drop (Int.toNat (0 : Int)) (Lib.split s #[(32 : UInt8)].toList)))])) := by kernel_rfl
  refine (congrArg (Tree.ok _) htree).mpr ?_
  clear htree
  have s1 : #[(32 : UInt8)].toList = [32] := rfl
  have hl := splitC_len 32 s
  have he := split_eq 32 s
  have hw : someF (splitC 32 s) = wordsF s := rfl
  have hp : s.length ≤ 2000000 := hp
  simp only [Tree.ok, tyd_inj, packAV, AV.same, AV.same.sameL, encV, encS, enc, inK, Nd.ok, List.headD_cons, List.cons_append, List.nil_append, List.append_nil, true_and, and_true, Bool.true_and, Bool.and_true, s1, he, hw, Int.toNat_zero, List.drop_zero, List.nil_append, List.length_cons, List.length_nil]
  repeat' first | apply And.intro | intro _
  all_goals first | omega | trivial | rfl | contradiction | (simp; omega) | (trace_state; fail)
def C_Uw_1 : FuncId → Option Ct := addC 87 ct_SplitWords C_UwB
theorem C_Uw_1_ok : COk Tryd.prog C_Uw_1 := addC_ok C_UwB_ok sat_SplitWords
theorem byte_iff (b : UInt8) (c : Int) (h : 0 ≤ c ∧ c ≤ 255) : ((b.toNat : Int) == c) = decide (b = UInt8.ofNat c.toNat) := by
  rw [Bool.eq_iff_iff, beq_iff_eq, decide_eq_true_eq]
  obtain ⟨k, rfl⟩ := Int.eq_ofNat_of_zero_le h.1
  have hk : k < 256 := by omega
  rw [Int.toNat_natCast]
  constructor
  · intro e
    have e' : b.toNat = k := by omega
    rw [← e']; simp
  · rintro rfl
    rw [UInt8.toNat_ofNat']
    omega
theorem spGo_at (s : Bs) (c : UInt8) (n i f : Nat) : spGo s c (n + 1) i f = if s.getD i 0 = c then (cutL s f i :: (spGo s c n (i + 1) (i + 1)).1, (spGo s c n (i + 1) (i + 1)).2) else spGo s c n (i + 1) f := rfl
def ann_l01Split_0 : LAnn := { sameS := [0, 1], modS := [4, 5, 6, 7], sameH := [], modH := [], base := 900000, nilE := [], nilB := [], G := fun
  | ⟨[.str s, .int .u8 c], [], [.nilS, .own .str out, .int .i64 f, .int .i64 i], []⟩ => some (.p ((0 ≤ f ∧ f ≤ i ∧ i ≤ (s.length : Int)) ∧ s.length ≤ 2000000 ∧ (out.length : Int) ≤ i ∧ 0 ≤ c ∧ c ≤ 255), .leaf (.exit 0) [.nilS, .own .str (out ++ (spGo s (UInt8.ofNat c.toNat) (s.length - i.toNat) i.toNat f.toNat).1), .int .i64 ((spGo s (UInt8.ofNat c.toNat) (s.length - i.toNat) i.toNat f.toNat).2 : Int), .unk] [])
  | _ => none }
def ct_l01Split : Ct := ctOf [.v .str, .v (.int .u8)] (fun ((s : List UInt8), (c : Int), _) => .p (s.length ≤ 2000000 ∧ 0 ≤ c ∧ c ≤ 255)) (fun ((s : List UInt8), (c : Int), _) => .own .str (splitC (UInt8.ofNat c.toNat) s))
set_option maxHeartbeats 1000000 in
theorem loop_l01Split_0 : LoopSat Tryd.prog Tryd.f84.ntmps (loopAt Tryd.f84 0) ann_l01Split_0 := by
  refine loopSat_of (C := C_Uw_1) (L := (addL (firstId (loopAt Tryd.f84 0)) ann_l01Split_0 noL)) (wr := false) mixedOk C_Uw_1_ok (loopsIn0 (by kernel_rfl)) (fun d => match d.same, d.vals with | [.str s, _], [_, _, _, .int _ i] => ((s.length : Int) - i).toNat | _, _ => 0) fun d p t hG hp => ?_
  simp only [ann_l01Split_0] at hG
  split at hG
  rotate_left
  · simp at hG
  rename_i s c out f i
  simp only [Option.some.injEq, Prod.mk.injEq] at hG
  obtain ⟨rfl, rfl⟩ := hG
  have htree : exRound Tryd.prog C_Uw_1 false (addL (firstId (loopAt Tryd.f84 0)) ann_l01Split_0 noL) Tryd.f84.ntmps ann_l01Split_0 (loopAt Tryd.f84 0) ⟨[.str s, .int .u8 c], [], [.nilS, .own .str out, .int .i64 f, .int .i64 i], []⟩ = .ite (decide (i < (↑s.length : Int))) (.need ((0 : Int) ≤ i ∧ i < (↑s.length : Int)) (.ite ((↑(s.getD i.toNat (0 : UInt8)).toNat : Int) == c) (.need ((0 : Int) ≤ f ∧ f ≤ i ∧ i ≤ (↑s.length : Int)) (.need (out.length + [cutL s f i].length ≤ (16777216 : Nat)) (.need (inK IntKind.i64 (i + (1 : Int))) (.need (inK IntKind.i64 (i + (1 : Int))) (.leaf (.normal, ⟨[.str (s), .int .u8 (c)], [], [.nilS, .own (Ty.str) (out ++ [cutL s f i]), .int .i64 (i + (1 : Int)), .int .i64 (i + (1 : Int))], []⟩)))))) (.need (inK IntKind.i64 (i + (1 : Int))) (.leaf (.normal, ⟨[.str (s), .int .u8 (c)], [], [.nilS, .own (Ty.str) (out), .int .i64 (f), .int .i64 (i + (1 : Int))], []⟩))))) (.leaf ((.exit 0), ⟨[.str (s), .int .u8 (c)], [], [.nilS, .own (Ty.str) (out), .int .i64 (f), .int .i64 (i)], []⟩)) := by kernel_rfl
  rw [htree]
  clear htree
  replace hp : (0 ≤ f ∧ f ≤ i ∧ i ≤ (s.length : Int)) ∧ s.length ≤ 2000000 ∧ (out.length : Int) ≤ i ∧ 0 ≤ c ∧ c ≤ 255 := hp
  obtain ⟨hi, hn, ho, hc⟩ := hp
  simp only [Tree.ok, tyd_inj, packAV, AV.same, AV.same.sameL, encV, encS, enc, inK, Nd.ok, List.headD_cons, List.cons_append, List.nil_append, List.append_nil, true_and, and_true, Bool.true_and, Bool.and_true, loop_next, weakBs_nil, weakBs_cons, weakB_self, weakB_row, weakB_int, weakL_nil, weakL_unk, weakL_guess, isRow_own, isRow_unk, weakL_int, weakL_bool, weakL_str, weakL_own, weakL_view, weakL_nilS, noRow_int, noRow_bool, own_inj, LTree.val, cond_true, cond_false, Prod.mk.injEq, List.cons.injEq, AV.int.injEq, AV.bool.injEq, AV.str.injEq, AV.agg.injEq, ann_l01Split_0, byte_iff _ _ hc, decide_eq_true_eq, decide_eq_false_iff_not]
  refine ⟨fun ha => ?_, fun ha => ?_⟩
  · rw [show s.length - i.toNat = (s.length - (i + 1).toNat) + 1 by omega, spGo_at]
    rw [show ((f.toNat : Nat) : Int) = f by omega, show ((i.toNat : Nat) : Int) = i by omega, show (i + 1).toNat = i.toNat + 1 by omega]
    by_cases he : s.getD i.toNat 0 = UInt8.ofNat c.toNat
    · simp only [he, if_true, List.length_append, List.length_cons, List.length_nil, List.append_assoc, List.singleton_append]
      repeat' first | apply And.intro | intro _
      all_goals first | omega | trivial | rfl | contradiction | (simp_all; done) | (simp; omega) | (trace_state; fail)
    · simp only [he, if_false]
      repeat' first | apply And.intro | intro _
      all_goals first | omega | trivial | rfl | contradiction | (simp_all; done) | (simp; omega) | (trace_state; fail)
  · rw [show s.length - i.toNat = 0 by omega]
    simp [Tree.ok, tyd_inj, packAV, AV.same, AV.same.sameL, encV, encS, enc, inK, Nd.ok, List.headD_cons, List.cons_append, List.nil_append, List.append_nil, true_and, and_true, Bool.true_and, Bool.and_true, loop_next, weakBs_nil, weakBs_cons, weakB_self, weakB_row, weakB_int, weakL_nil, weakL_unk, weakL_guess, isRow_own, isRow_unk, weakL_int, weakL_bool, weakL_str, weakL_own, weakL_view, weakL_nilS, noRow_int, noRow_bool, own_inj, LTree.val, cond_true, cond_false, Prod.mk.injEq, List.cons.injEq, AV.int.injEq, AV.bool.injEq, AV.str.injEq, AV.agg.injEq, spGo]
    try omega
theorem loops_l01Split : ∀ c, Tryd.f84.body = some c → LoopsOk Tryd.prog (addL (firstId (loopAt Tryd.f84 0)) ann_l01Split_0 noL) Tryd.f84.ntmps c := loopsN fun i hi ann h => by
  have hn : loopN Tryd.f84 = 1 := by kernel_rfl
  rw [hn] at hi
  exact match i, hi, h with
    | 0, _, h => (Option.some.inj ((show (addL (firstId (loopAt Tryd.f84 0)) ann_l01Split_0 noL) (firstId (loopAt Tryd.f84 0)) = some ann_l01Split_0 from by kernel_rfl).symm.trans h)) ▸ loop_l01Split_0
set_option maxHeartbeats 1000000 in
theorem sat_l01Split : Sat Tryd.prog 84 ct_l01Split := by
  refine sat_typed (C := C_Uw_1) (L := (addL (firstId (loopAt Tryd.f84 0)) ann_l01Split_0 noL)) (wr := false) mixedOk Tryd.func84 C_Uw_1_ok (loops_l01Split) (fun _ => by first | rfl | (simp [ownsOf, ownsOf.ownsL, enc, encV, encS])) fun x hp => ?_
  obtain ⟨(s : List UInt8), (c : Int), _⟩ := x
  replace hp : s.length ≤ 2000000 ∧ 0 ≤ c ∧ c ≤ 255 := hp
  have htree : exFunc Tryd.prog C_Uw_1 false (addL (firstId (loopAt Tryd.f84 0)) ann_l01Split_0 noL) Tryd.f84 (encA [.v .str, .v (.int .u8)] (s, c, ())) = .need (((0 : Int) ≤ (0 : Int) ∧ (0 : Int) ≤ (0 : Int) ∧ (0 : Int) ≤ (↑s.length : Int)) ∧ s.length ≤ (2000000 : Nat) ∧ (↑(0 : Nat) : Int) ≤ (0 : Int) ∧ (0 : Int) ≤ c ∧ c ≤ (255 : Int)) (.need ((0 : Int) ≤ (↑(spGo s (UInt8.ofNat c.toNat) (s.length - Int.toNat (0 : Int)) (Int.toNat (0 : Int)) (Int.toNat (0 : Int))).snd : Int) ∧ (↑(spGo s (UInt8.ofNat c.toNat) (s.length - Int.toNat (0 : Int)) (Int.toNat (0 : Int)) (Int.toNat (0 : Int))).snd : Int) ≤ (↑s.length : Int)) (.need (([] ++ (spGo s (UInt8.ofNat c.toNat) (s.length - Int.toNat (0 : Int)) (Int.toNat (0 : Int)) (Int.toNat (0 : Int))).fst).length + [cutL s (↑(spGo s (UInt8.ofNat c.toNat) (s.length - Int.toNat (0 : Int)) (Int.toNat (0 : Int)) (Int.toNat (0 : Int))).snd : Int) (↑s.length : Int)].length ≤ (16777216 : Nat)) (.leaf [.own (Ty.str) ([] ++ (spGo s (UInt8.ofNat c.toNat) (s.length - Int.toNat (0 : Int)) (Int.toNat (0 : Int)) (Int.toNat (0 : Int))).fst ++ [cutL s (↑(spGo s (UInt8.ofNat c.toNat) (s.length - Int.toNat (0 : Int)) (Int.toNat (0 : Int)) (Int.toNat (0 : Int))).snd : Int) (↑s.length : Int)])]))) := by kernel_rfl
  refine (congrArg (Tree.ok _) htree).mpr ?_
  clear htree
  obtain ⟨hp, hc⟩ := hp
  have hp : s.length ≤ 2000000 := hp
  have hg := spGo_all s (UInt8.ofNat c.toNat)
  have hl := splitC_len (UInt8.ofNat c.toNat) s
  simp only [Tree.ok, tyd_inj, packAV, AV.same, AV.same.sameL, encV, encS, enc, inK, Nd.ok, List.headD_cons, List.cons_append, List.nil_append, List.append_nil, true_and, and_true, Bool.true_and, Bool.and_true, Int.toNat_zero, Nat.sub_zero, List.nil_append]
  rw [← hg.1, List.length_append] at hl
  generalize spGo s (UInt8.ofNat c.toNat) s.length 0 0 = q at *
  obtain ⟨q1, q2⟩ := q
  simp only at hg hl ⊢
  have e1 : cutL s (q2 : Int) (s.length : Int) = s.drop q2 := by
    unfold cutL
    rw [show ((s.length : Int)).toNat = s.length by omega, List.take_length, show ((q2 : Nat) : Int).toNat = q2 by omega]
  rw [e1, hg.1]
  simp only [List.length_cons, List.length_nil] at hl ⊢
  repeat' first | apply And.intro | intro _
  all_goals first | omega | trivial | rfl | contradiction | assumption | exact hc.1 | exact hc.2 | (simp; omega) | (trace_state; fail)
def C_Uw_2 : FuncId → Option Ct := addC 84 ct_l01Split C_Uw_1
theorem C_Uw_2_ok : COk Tryd.prog C_Uw_2 := addC_ok C_Uw_1_ok sat_l01Split

def C_Uw : FuncId → Option Ct := C_Uw_2
theorem C_Uw_ok : COk Tryd.prog C_Uw := C_Uw_2_ok
end Go.Proofs.YtkeckmdmmbeaiaaDoor
