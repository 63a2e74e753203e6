/- Contracts: a stacked tuning of the reference. Conditions: as each says. -/
import Derived.Test.YtkeckmdmmbeaiaaGreatDoorRa
set_option linter.unusedSimpArgs false
set_option linter.unusedVariables false
namespace Go.Proofs.YtkeckmdmmbeaiaaGreatDoor
open Go.RowKit Sx
set_option maxRecDepth 100000
set_option maxHeartbeats 1000000
/-- What is put behind, and whether x is among it: x stands ahead of the first that is greater. -/
def putGo (x : Fr) : List Fr → Bool → List Fr × Bool
  | [], d => ([], d)
  | y :: l, d => if d = false ∧ 0 < cmpB y x then (x :: y :: (putGo x l true).1, (putGo x l true).2) else (y :: (putGo x l d).1, (putGo x l d).2)
def putR (x : Fr) (xs : List Fr) : List Fr := (putGo x xs false).1 ++ (if (putGo x xs false).2 = true then [] else [x])
theorem putGo_at (x : Fr) (xs : List tFrac.den) (d : Bool) (i : Nat) (h : i < xs.length) : putGo x (xs.drop i) d = if d = false ∧ 0 < cmpB (atF xs i) x then (x :: atF xs i :: (putGo x (xs.drop (i + 1)) true).1, (putGo x (xs.drop (i + 1)) true).2) else (atF xs i :: (putGo x (xs.drop (i + 1)) d).1, (putGo x (xs.drop (i + 1)) d).2) := by
  unfold atF
  rw [List.drop_eq_getElem_cons h, getD_lt _ _ _ h]
  rfl
theorem putGo_true (x : Fr) : ∀ l, putGo x l true = (l, true)
  | [] => rfl
  | y :: l => by
    unfold putGo
    rw [if_neg (by simp), putGo_true x l]
theorem putGo_len (x : Fr) : ∀ (l : List Fr), (putGo x l false).1.length = l.length + (if (putGo x l false).2 = true then 1 else 0)
  | [] => rfl
  | y :: l => by
    unfold putGo
    by_cases h : 0 < cmpB y x
    · rw [if_pos ⟨rfl, h⟩, putGo_true]; simp
    · rw [if_neg (fun g => h g.2)]
      have := putGo_len x l
      simp only [List.length_cons]
      omega
theorem putR_len (x : Fr) (l : List Fr) : (putR x l).length = l.length + 1 := by
  have := putGo_len x l
  unfold putR
  rw [List.length_append]
  split at this <;> rename_i h <;> simp only [h, if_true, if_false, Bool.false_eq_true, List.length_cons, List.length_nil] <;> omega
theorem putGo_mem (x z : Fr) : ∀ (l : List Fr) (d : Bool), z ∈ (putGo x l d).1 → z = x ∨ z ∈ l
  | [], _, h => by simp [putGo] at h
  | y :: l, d, h => by
    unfold putGo at h
    split at h
    · simp only [List.mem_cons] at h
      rcases h with h | h | h
      · exact .inl h
      · exact .inr (by simp [h])
      · exact (putGo_mem x z l true h).imp id (fun g => by simp [g])
    · simp only [List.mem_cons] at h
      rcases h with h | h
      · exact .inr (by simp [h])
      · exact (putGo_mem x z l d h).imp id (fun g => by simp [g])
theorem putR_ok {x : Fr} {l : List tFrac.den} (hx : okF x.1 x.2 = true) (h : okFs l = true) : okFs (putR x l) = true := by
  unfold okFs at *
  refine List.all_eq_true.2 fun z hz => ?_
  unfold putR at hz
  rcases List.mem_append.1 hz with h1 | h1
  · rcases putGo_mem x z l false h1 with h2 | h2
    · rw [h2]; exact hx
    · exact List.all_eq_true.1 h z h2
  · split at h1
    · simp at h1
    · rw [List.mem_singleton] at h1; rw [h1]; exact hx
theorem mul_posG {r g : Fr} (hr : PosF r) (hg : PosF g) (h : (mulF r.1 r.2 g.1 g.2).2 = 0) : PosF (mulF r.1 r.2 g.1 g.2).1 := by
  have e := mulF_q hr.ok hg.ok h
  have k := (mulF_ok hr.ok hg.ok).resolve_right (by omega)
  have q3 : 0 < qF r * qF g := Rat.mul_pos hr.q hg.q
  exact ⟨k.2, (qF_pos k.2).1 (by rw [e]; exact q3)⟩
def stGo (o g : Fr) : Nat → Fr → List Fr → List Fr × Int
  | 0, _, rs => (rs, 0)
  | k + 1, l, rs => if (mulF l.1 l.2 g.1 g.2).2 = 0 then (if (redF (mulF l.1 l.2 g.1 g.2).1 o).2.2 = 0 then stGo o g k (redF (mulF l.1 l.2 g.1 g.2).1 o).1 (putR (redF (mulF l.1 l.2 g.1 g.2).1 o).1 rs) else ([], 2)) else ([], 2)
theorem stGo_len (o g : Fr) : ∀ (k : Nat) (l : Fr) (rs : List Fr), (stGo o g k l rs).1.length ≤ rs.length + k
  | 0, _, rs => Nat.le_refl _
  | k + 1, l, rs => by
    unfold stGo
    split
    · split
      · have := stGo_len o g k (redF (mulF l.1 l.2 g.1 g.2).1 o).1 (putR (redF (mulF l.1 l.2 g.1 g.2).1 o).1 rs)
        rw [putR_len] at this
        omega
      · simp
    · simp
def noT : tTuning.den := ((0, 0), (0, 0), [])
def stackF (b o g : Fr) (n : Int) : tTuning.den × Int :=
  if okF b.1 b.2 = true ∧ okF o.1 o.2 = true ∧ okF g.1 g.2 = true then (if b.1 ≤ 0 ∨ g.1 ≤ 0 ∨ cmpB o (1, 1) ≤ 0 ∨ inB n 1 24 = false then (noT, 2) else
    if (stGo o g (n - 1).toNat (1, 1) [(1, 1)]).2 = 0 then (if tuneF (b, o, (stGo o g (n - 1).toNat (1, 1) [(1, 1)]).1) = true then ((b, o, (stGo o g (n - 1).toNat (1, 1) [(1, 1)]).1), 0) else (noT, 4)) else (noT, 2)) else (noT, 1)
def ann_l15Put_0 : LAnn := { sameS := [0, 3], modS := [5, 6, 7], sameH := [3], modH := [], base := 900000, nilE := [], nilB := [], G := fun
  | ⟨[.view (.pair (.int .i64) (.int .i64)) xs, .ptr 3 0], [.box [.int .i64 a, .int .i64 b]], [.own (.pair (.int .i64) (.int .i64)) out, .bool d, .int .i64 i], []⟩ => some (.p ((0 ≤ i ∧ i ≤ (xs.length : Int)) ∧ xs.length ≤ 1000 ∧ out.length ≤ i.toNat + (if d = true then 1 else 0) ∧ okFs xs = true ∧ okF a b = true), .leaf (.exit 0) [.own tFrac (out ++ (putGo (a, b) (xs.drop i.toNat) d).1), .bool (putGo (a, b) (xs.drop i.toNat) d).2, .unk] [])
  | _ => none }
def ct_l15Put : Ct := ctOf [.v qFrac, .s tFrac] (fun ((xs : List tFrac.den), (x : tFrac.den), _) => .p (xs.length ≤ 1000 ∧ okFs xs = true ∧ okF x.1 x.2 = true)) (fun ((xs : List tFrac.den), (x : tFrac.den), _) => .own tFrac (putR x xs))
set_option maxHeartbeats 1000000 in
theorem loop_l15Put_0 : LoopSat Tryz.prog Tryz.f125.ntmps (loopAt Tryz.f125 0) ann_l15Put_0 := by
  refine loopSat_of (C := C_Ra) (L := (addL (firstId (loopAt Tryz.f125 0)) ann_l15Put_0 noL)) (wr := false) mixedOk C_Ra_ok (loopsIn0 (by kernel_rfl)) (fun d => match d.same, d.vals with | [.view _ xs, _], [_, _, .int _ i] => ((xs.length : Int) - i).toNat | _, _ => 0) fun d p t hG hp => ?_
  simp only [ann_l15Put_0] at hG
  split at hG
  rotate_left
  · simp at hG
  rename_i xs a b out d i
  simp only [Option.some.injEq, Prod.mk.injEq] at hG
  obtain ⟨rfl, rfl⟩ := hG
  have htree : exRound Tryz.prog C_Ra false (addL (firstId (loopAt Tryz.f125 0)) ann_l15Put_0 noL) Tryz.f125.ntmps ann_l15Put_0 (loopAt Tryz.f125 0) ⟨[.view tFrac xs, .ptr 3 0], [.box [.int .i64 a, .int .i64 b]], [.own tFrac out, .bool d, .int .i64 i], []⟩ = .ite (decide (i < (↑xs.length : Int))) (.ite (!d) (.need ((0 : Int) ≤ i ∧ i < (↑xs.length : Int)) (.need ((((1 : Int) ≤ (getT tFrac xs i).snd ∧ (getT tFrac xs i).snd ≤ (1000000 : Int)) ∧ (-1000000000 : Int) ≤ (getT tFrac xs i).fst ∧ (getT tFrac xs i).fst ≤ (1000000000 : Int)) ∧ ((1 : Int) ≤ b ∧ b ≤ (1000000 : Int)) ∧ (-1000000000 : Int) ≤ a ∧ a ≤ (1000000000 : Int)) (.ite (decide ((0 : Int) < cmpF (getT tFrac xs i).fst (getT tFrac xs i).snd a b)) (.need (out.length + [(a, b)].length ≤ (16777216 : Nat)) (.need ((0 : Int) ≤ i ∧ i < (↑xs.length : Int)) (.need ((out ++ [(a, b)]).length + [((getT tFrac xs i).fst, (getT tFrac xs i).snd)].length ≤ (16777216 : Nat)) (.need (inK IntKind.i64 (i + (1 : Int))) (.leaf (.normal, ⟨[.view (I64.pair I64) (xs), .ptr 3 0], [.box [.int .i64 (a), .int .i64 (b)]], [.own (I64.pair I64) (out ++ [(a, b)] ++ [((getT tFrac xs i).fst, (getT tFrac xs i).snd)]), .bool (true), .int .i64 (i + (1 : Int))], []⟩)))))) (.need ((0 : Int) ≤ i ∧ i < (↑xs.length : Int)) (.need (out.length + [((getT tFrac xs i).fst, (getT tFrac xs i).snd)].length ≤ (16777216 : Nat)) (.need (inK IntKind.i64 (i + (1 : Int))) (.leaf (.normal, ⟨[.view (I64.pair I64) (xs), .ptr 3 0], [.box [.int .i64 (a), .int .i64 (b)]], [.own (I64.pair I64) (out ++ [((getT tFrac xs i).fst, (getT tFrac xs i).snd)]), .bool (d), .int .i64 (i + (1 : Int))], []⟩)))))))) (.need ((0 : Int) ≤ i ∧ i < (↑xs.length : Int)) (.need (out.length + [((getT tFrac xs i).fst, (getT tFrac xs i).snd)].length ≤ (16777216 : Nat)) (.need (inK IntKind.i64 (i + (1 : Int))) (.leaf (.normal, ⟨[.view (I64.pair I64) (xs), .ptr 3 0], [.box [.int .i64 (a), .int .i64 (b)]], [.own (I64.pair I64) (out ++ [((getT tFrac xs i).fst, (getT tFrac xs i).snd)]), .bool (d), .int .i64 (i + (1 : Int))], []⟩)))))) (.leaf ((.exit 0), ⟨[.view (I64.pair I64) (xs), .ptr 3 0], [.box [.int .i64 (a), .int .i64 (b)]], [.own (I64.pair I64) (out), .bool (d), .int .i64 (i)], []⟩)) := by kernel_rfl
  rw [htree]
  clear htree
  replace hp : (0 ≤ i ∧ i ≤ (xs.length : Int)) ∧ xs.length ≤ 1000 ∧ out.length ≤ i.toNat + (if d = true then 1 else 0) ∧ okFs xs = true ∧ okF a b = true := hp
  obtain ⟨hi, hl, ho, hs, hx⟩ := hp
  have hz : ∀ (k : Int), getT tFrac xs k = atF xs k.toNat := fun _ => rfl
  have eta : ∀ z : Fr, (z.1, z.2) = z := fun _ => rfl
  have bx := okF_bd hx
  simp only [Tree.ok, tyd_inj, packAV, AV.same, AV.same.sameL, encV, encS, enc, inK, Nd.ok, List.headD_cons, List.cons_append, List.nil_append, List.append_nil, true_and, and_true, Bool.true_and, Bool.and_true, loop_next, weakBs_nil, weakBs_cons, weakB_self, weakB_row, weakB_int, weakL_nil, weakL_unk, weakL_guess, isRow_own, isRow_unk, weakL_int, weakL_bool, weakL_str, weakL_own, weakL_view, weakL_nilS, noRow_int, noRow_bool, own_inj, LTree.val, cond_true, cond_false, Prod.mk.injEq, List.cons.injEq, AV.int.injEq, AV.bool.injEq, AV.str.injEq, AV.agg.injEq, ann_l15Put_0, decide_eq_true_eq, decide_eq_false_iff_not, hz, eta]
  refine ⟨fun ha => ?_, fun ha => ?_⟩
  · have hy := okF_bd (okFs_get hs i.toNat (by omega))
    have hg := putGo_at (a, b) xs d i.toNat (by omega)
    rw [hg, show (i + 1).toNat = i.toNat + 1 by omega]
    clear hg
    simp only [cmpB, List.length_append, List.length_cons, List.length_nil, List.append_assoc, List.cons_append, List.nil_append]
    cases d
    · simp only [Bool.false_eq_true, if_false, true_and, Bool.not_false] at ho ⊢
      by_cases hc : 0 < cmpF (atF xs i.toNat).1 (atF xs i.toNat).2 a b
      · simp only [if_pos hc]
        repeat' first | apply And.intro | intro _
        all_goals first | omega | assumption | exact hy.1.1 | exact hy.1.2 | exact hy.2.1 | exact hy.2.2 | trivial | rfl | contradiction | (simp; omega) | (simp; done) | (trace_state; fail)
      · simp only [if_neg hc]
        repeat' first | apply And.intro | intro _
        all_goals first | omega | assumption | exact hy.1.1 | exact hy.1.2 | exact hy.2.1 | exact hy.2.2 | trivial | rfl | contradiction | (simp; omega) | (simp; done) | (trace_state; fail)
    · simp only [if_true, Bool.true_eq_false, false_and, if_false, Bool.not_true] at ho ⊢
      repeat' first | apply And.intro | intro _
      all_goals first | omega | assumption | exact hy.1.1 | exact hy.1.2 | exact hy.2.1 | exact hy.2.2 | trivial | rfl | contradiction | (simp; omega) | (simp; done) | (trace_state; fail)
  · rw [List.drop_eq_nil_of_le (by omega)]
    simp [Tree.ok, tyd_inj, packAV, AV.same, AV.same.sameL, encV, encS, enc, inK, Nd.ok, List.headD_cons, List.cons_append, List.nil_append, List.append_nil, true_and, and_true, Bool.true_and, Bool.and_true, loop_next, weakBs_nil, weakBs_cons, weakB_self, weakB_row, weakB_int, weakL_nil, weakL_unk, weakL_guess, isRow_own, isRow_unk, weakL_int, weakL_bool, weakL_str, weakL_own, weakL_view, weakL_nilS, noRow_int, noRow_bool, own_inj, LTree.val, cond_true, cond_false, Prod.mk.injEq, List.cons.injEq, AV.int.injEq, AV.bool.injEq, AV.str.injEq, AV.agg.injEq, putGo]
theorem loops_l15Put : ∀ c, Tryz.f125.body = some c → LoopsOk Tryz.prog (addL (firstId (loopAt Tryz.f125 0)) ann_l15Put_0 noL) Tryz.f125.ntmps c := loopsN fun i hi ann h => by
  have hn : loopN Tryz.f125 = 1 := by kernel_rfl
  rw [hn] at hi
  exact match i, hi, h with
    | 0, _, h => (Option.some.inj ((show (addL (firstId (loopAt Tryz.f125 0)) ann_l15Put_0 noL) (firstId (loopAt Tryz.f125 0)) = some ann_l15Put_0 from by kernel_rfl).symm.trans h)) ▸ loop_l15Put_0
set_option maxHeartbeats 1000000 in
theorem sat_l15Put : Sat Tryz.prog 125 ct_l15Put := by
  refine sat_typed (C := C_Ra) (L := (addL (firstId (loopAt Tryz.f125 0)) ann_l15Put_0 noL)) (wr := false) mixedOk Tryz.func125 C_Ra_ok (loops_l15Put) (fun _ => by first | rfl | (simp [ownsOf, ownsOf.ownsL, enc, encV, encS])) fun x hp => ?_
  obtain ⟨(xs : List tFrac.den), (x : tFrac.den), _⟩ := x
  replace hp : xs.length ≤ 1000 ∧ okFs xs = true ∧ okF x.1 x.2 = true := hp
  have htree : exFunc Tryz.prog C_Ra false (addL (firstId (loopAt Tryz.f125 0)) ann_l15Put_0 noL) Tryz.f125 (encA [.v qFrac, .s tFrac] (xs, x, ())) = .need (((0 : Int) ≤ (0 : Int) ∧ (0 : Int) ≤ (↑xs.length : Int)) ∧ xs.length ≤ (1000 : Nat) ∧ ((0 : Nat) ≤ Int.toNat (0 : Int) + if false = true then (1 : Nat) else (0 : Nat)) ∧ okFs xs = true ∧ okF x.fst x.snd = true) (.ite (!(putGo (x.fst, x.snd) (List.drop (Int.toNat (0 : Int)) xs) false).snd) (.need (([] ++ (putGo (x.fst, x.snd) (List.drop (Int.toNat (0 : Int)) xs) false).fst).length + [(x.fst, x.snd)].length ≤ (16777216 : Nat)) (.leaf [.own (I64.pair I64) ([] ++ (putGo (x.fst, x.snd) (List.drop (Int.toNat (0 : Int)) xs) false).fst ++ [(x.fst, x.snd)])])) (.leaf [.own (I64.pair I64) ([] ++ (putGo (x.fst, x.snd) (List.drop (Int.toNat (0 : Int)) xs) false).fst)])) := by kernel_rfl
  refine (congrArg (Tree.ok _) htree).mpr ?_
  clear htree
  have eta : ∀ z : Fr, (z.1, z.2) = z := fun _ => rfl
  have hl := putGo_len x xs
  obtain ⟨h1, h2, h3⟩ := hp
  simp only [Tree.ok, tyd_inj, packAV, AV.same, AV.same.sameL, encV, encS, enc, inK, Nd.ok, List.headD_cons, List.cons_append, List.nil_append, List.append_nil, true_and, and_true, Bool.true_and, Bool.and_true, putR, eta, Int.toNat_zero, List.drop_zero, List.nil_append, List.length_append, List.length_cons, List.length_nil]
  cases hd : (putGo x xs false).2
  · rw [hd] at hl
    simp only [Bool.not_false, true_implies, Bool.true_eq_false, false_implies, Bool.false_eq_true, if_false] at hl ⊢
    repeat' first | apply And.intro | intro _
    all_goals first | omega | assumption | trivial | rfl | contradiction
  · rw [hd] at hl
    simp only [Bool.not_true, Bool.false_eq_true, false_implies, true_implies, if_true, List.append_nil] at hl ⊢
    repeat' first | apply And.intro | intro _
    all_goals first | omega | assumption | trivial | rfl | contradiction
def C_Rb_1 : FuncId → Option Ct := addC 125 ct_l15Put C_Ra
theorem C_Rb_1_ok : COk Tryz.prog C_Rb_1 := addC_ok C_Ra_ok sat_l15Put
def ann_sStack_0 : LAnn := { sameS := [3, 5, 6, 8, 10, 11], modS := [9, 12], sameH := [5, 6], modH := [8, 10, 11], base := 900000, nilE := [], nilB := [], G := fun
  | ⟨[.int .i64 n, .ptr 5 0, .ptr 6 0, .ptr 8 0, .ptr 10 0, .ptr 11 0], [.box [.int .i64 o1, .int .i64 o2], .box [.int .i64 g1, .int .i64 g2]], [.int .i64 c, .int .i64 k], [[.int .i64 z1, .int .i64 z2, .int .i64 z3, .int .i64 z4, .nilS], [.int .i64 b1, .int .i64 b2, .int .i64 p1, .int .i64 p2, .own (.pair (.int .i64) (.int .i64)) rs], [.int .i64 l1, .int .i64 l2]]⟩ => some (.p ((1 ≤ k ∧ k ≤ n) ∧ n ≤ 24 ∧ PosF (l1, l2) ∧ PosF (g1, g2) ∧ OctF (o1, o2) ∧ okFs rs = true ∧ (rs.length : Int) = k), .ite (decide ((stGo (o1, o2) (g1, g2) (n - k).toNat (l1, l2) rs).2 = 0)) (.leaf (.exit 0) [.int .i64 c, .unk] [[.int .i64 z1, .int .i64 z2, .int .i64 z3, .int .i64 z4, .nilS], [.int .i64 b1, .int .i64 b2, .int .i64 p1, .int .i64 p2, .own tFrac (stGo (o1, o2) (g1, g2) (n - k).toNat (l1, l2) rs).1], [.unk, .unk]]) (.leaf .ret [.int .i64 2, .unk] [[.int .i64 0, .int .i64 0, .int .i64 0, .int .i64 0, .nilS], [.unk, .unk, .unk, .unk, .guess True], [.unk, .unk]]))
  | _ => none }
def ct_sStack : Ct := ctOf [.s tFrac, .s tFrac, .s tFrac, .v (.int .i64)] (fun _ => .tt) (fun ((b : tFrac.den), (o : tFrac.den), (g : tFrac.den), (n : Int), _) => .tup [.agg [.int .i64 (stackF b o g n).1.1.1, .int .i64 (stackF b o g n).1.1.2, .int .i64 (stackF b o g n).1.2.1.1, .int .i64 (stackF b o g n).1.2.1.2, .own tFrac (stackF b o g n).1.2.2], .int .i64 (stackF b o g n).2])
set_option maxHeartbeats 1000000 in
theorem loop_sStack_0 : LoopSat Tryz.prog Tryz.f124.ntmps (loopAt Tryz.f124 0) ann_sStack_0 := by
  refine loopSat_of (C := C_Rb_1) (L := (addL (firstId (loopAt Tryz.f124 0)) ann_sStack_0 noL)) (wr := false) mixedOk C_Rb_1_ok (loopsIn0 (by kernel_rfl)) (fun d => match d.same, d.vals with | [.int _ n, _, _, _, _, _], [_, .int _ k] => (n - k).toNat | _, _ => 0) fun d p t hG hp => ?_
  simp only [ann_sStack_0] at hG
  split at hG
  rotate_left
  · simp at hG
  rename_i n o1 o2 g1 g2 c k z1 z2 z3 z4 b1 b2 p1 p2 rs l1 l2
  simp only [Option.some.injEq, Prod.mk.injEq] at hG
  obtain ⟨rfl, rfl⟩ := hG
  have htree : exRound Tryz.prog C_Rb_1 false (addL (firstId (loopAt Tryz.f124 0)) ann_sStack_0 noL) Tryz.f124.ntmps ann_sStack_0 (loopAt Tryz.f124 0) ⟨[.int .i64 n, .ptr 5 0, .ptr 6 0, .ptr 8 0, .ptr 10 0, .ptr 11 0], [.box [.int .i64 o1, .int .i64 o2], .box [.int .i64 g1, .int .i64 g2]], [.int .i64 c, .int .i64 k], [[.int .i64 z1, .int .i64 z2, .int .i64 z3, .int .i64 z4, .nilS], [.int .i64 b1, .int .i64 b2, .int .i64 p1, .int .i64 p2, .own tFrac rs], [.int .i64 l1, .int .i64 l2]]⟩ = .ite (decide (k < n)) (.ite ((mulF l1 l2 g1 g2).snd != (0 : Int)) (.leaf (.ret, ⟨[.int .i64 (n), .ptr 5 0, .ptr 6 0, .ptr 8 0, .ptr 10 0, .ptr 11 0], [.box [.int .i64 (o1), .int .i64 (o2)], .box [.int .i64 (g1), .int .i64 (g2)]], [.int .i64 ((2 : Int)), .int .i64 (k)], [[.int .i64 ((0 : Int)), .int .i64 ((0 : Int)), .int .i64 ((0 : Int)), .int .i64 ((0 : Int)), .nilS], [.int .i64 (b1), .int .i64 (b2), .int .i64 (p1), .int .i64 (p2), .own (I64.pair I64) (rs)], [.int .i64 (l1), .int .i64 (l2)]]⟩)) (.need (PosF ((mulF l1 l2 g1 g2).fst.fst, (mulF l1 l2 g1 g2).fst.snd) ∧ OctF (o1, o2)) (.ite ((redF ((mulF l1 l2 g1 g2).fst.fst, (mulF l1 l2 g1 g2).fst.snd) (o1, o2)).snd.snd != (0 : Int)) (.leaf (.ret, ⟨[.int .i64 (n), .ptr 5 0, .ptr 6 0, .ptr 8 0, .ptr 10 0, .ptr 11 0], [.box [.int .i64 (o1), .int .i64 (o2)], .box [.int .i64 (g1), .int .i64 (g2)]], [.int .i64 ((2 : Int)), .int .i64 (k)], [[.int .i64 ((0 : Int)), .int .i64 ((0 : Int)), .int .i64 ((0 : Int)), .int .i64 ((0 : Int)), .nilS], [.int .i64 (b1), .int .i64 (b2), .int .i64 (p1), .int .i64 (p2), .own (I64.pair I64) (rs)], [.int .i64 (l1), .int .i64 (l2)]]⟩)) (.need (rs.length ≤ (1000 : Nat) ∧ okFs rs = true ∧ okF (redF ((mulF l1 l2 g1 g2).fst.fst, (mulF l1 l2 g1 g2).fst.snd) (o1, o2)).fst.fst (redF ((mulF l1 l2 g1 g2).fst.fst, (mulF l1 l2 g1 g2).fst.snd) (o1, o2)).fst.snd = true) (.need (inK IntKind.i64 (k + (1 : Int))) (.leaf (.normal, ⟨[.int .i64 (n), .ptr 5 0, .ptr 6 0, .ptr 8 0, .ptr 10 0, .ptr 11 0], [.box [.int .i64 (o1), .int .i64 (o2)], .box [.int .i64 (g1), .int .i64 (g2)]], [.int .i64 (c), .int .i64 (k + (1 : Int))], [[.int .i64 (z1), .int .i64 (z2), .int .i64 (z3), .int .i64 (z4), .nilS], [.int .i64 (b1), .int .i64 (b2), .int .i64 (p1), .int .i64 (p2), .own (I64.pair I64) (putR ((redF ((mulF l1 l2 g1 g2).fst.fst, (mulF l1 l2 g1 g2).fst.snd) (o1, o2)).fst.fst, (redF ((mulF l1 l2 g1 g2).fst.fst, (mulF l1 l2 g1 g2).fst.snd) (o1, o2)).fst.snd) rs)], [.int .i64 ((redF ((mulF l1 l2 g1 g2).fst.fst, (mulF l1 l2 g1 g2).fst.snd) (o1, o2)).fst.fst), .int .i64 ((redF ((mulF l1 l2 g1 g2).fst.fst, (mulF l1 l2 g1 g2).fst.snd) (o1, o2)).fst.snd)]]⟩))))))) (.leaf ((.exit 0), ⟨[.int .i64 (n), .ptr 5 0, .ptr 6 0, .ptr 8 0, .ptr 10 0, .ptr 11 0], [.box [.int .i64 (o1), .int .i64 (o2)], .box [.int .i64 (g1), .int .i64 (g2)]], [.int .i64 (c), .int .i64 (k)], [[.int .i64 (z1), .int .i64 (z2), .int .i64 (z3), .int .i64 (z4), .nilS], [.int .i64 (b1), .int .i64 (b2), .int .i64 (p1), .int .i64 (p2), .own (I64.pair I64) (rs)], [.int .i64 (l1), .int .i64 (l2)]]⟩)) := by kernel_rfl
  rw [htree]
  clear htree
  replace hp : (1 ≤ k ∧ k ≤ n) ∧ n ≤ 24 ∧ PosF (l1, l2) ∧ PosF (g1, g2) ∧ OctF (o1, o2) ∧ okFs rs = true ∧ (rs.length : Int) = k := hp
  obtain ⟨hk, hn, hl, hg, ho, hs, hr⟩ := hp
  have eta : ∀ z : Fr, (z.1, z.2) = z := fun _ => rfl
  have hm := mulF_ok hl.ok hg.ok
  have hmp := fun h => mul_posG hl hg h
  simp only [Tree.ok, tyd_inj, packAV, AV.same, AV.same.sameL, encV, encS, enc, inK, Nd.ok, List.headD_cons, List.cons_append, List.nil_append, List.append_nil, true_and, and_true, Bool.true_and, Bool.and_true, loop_next, weakBs_nil, weakBs_cons, weakB_self, weakB_row, weakB_int, weakL_nil, weakL_unk, weakL_guess, isRow_own, isRow_unk, weakL_int, weakL_bool, weakL_str, weakL_own, weakL_view, weakL_nilS, noRow_int, noRow_bool, own_inj, LTree.val, cond_true, cond_false, Prod.mk.injEq, List.cons.injEq, AV.int.injEq, AV.bool.injEq, AV.str.injEq, AV.agg.injEq, ann_sStack_0, eta, decide_eq_true_eq, decide_eq_false_iff_not, bne_iff_ne, ne_eq, bne_eq_false_iff_eq]
  refine ⟨fun ha => ?_, fun ha => ?_⟩
  · have hS : stGo (o1, o2) (g1, g2) (n - k).toNat (l1, l2) rs = if (mulF l1 l2 g1 g2).2 = 0 then (if (redF (mulF l1 l2 g1 g2).1 (o1, o2)).2.2 = 0 then stGo (o1, o2) (g1, g2) (n - (k + 1)).toNat (redF (mulF l1 l2 g1 g2).1 (o1, o2)).1 (putR (redF (mulF l1 l2 g1 g2).1 (o1, o2)).1 rs) else ([], 2)) else ([], 2) := by
      rw [show (n - k).toNat = (n - (k + 1)).toNat + 1 by omega]; rfl
    rw [hS]
    clear hS
    simp only at hm hmp
    generalize mulF l1 l2 g1 g2 = q at *
    by_cases hq : q.2 = 0
    · have hq1 := hmp hq
      have hred := red_spec ho hq1
      have hpl := putR_len (redF q.1 (o1, o2)).1 rs
      have hpo := fun h => putR_ok (x := (redF q.1 (o1, o2)).1) (l := rs) h hs
      simp only [if_pos hq]
      generalize redF q.1 (o1, o2) = r at *
      rcases hred with ⟨e, hP, _⟩ | ⟨e, _⟩
      · have hpo := hpo hP.ok
        have hrok := hP.ok
        simp only [if_pos e]
        generalize putR r.1 rs = pr at *
        refine ⟨fun h => absurd hq h, fun _ => ⟨⟨hq1, ho⟩, fun h => absurd e h, fun _ => ⟨⟨by omega, hs, hrok⟩, by omega, by omega, ⟨by omega, by omega, hP, hg, ho, hpo, by omega⟩, ?_⟩⟩⟩
        first | trivial | (simp [Tree.ok, tyd_inj, packAV, AV.same, AV.same.sameL, encV, encS, enc, inK, Nd.ok, List.headD_cons, List.cons_append, List.nil_append, List.append_nil, true_and, and_true, Bool.true_and, Bool.and_true, loop_next, weakBs_nil, weakBs_cons, weakB_self, weakB_row, weakB_int, weakL_nil, weakL_unk, weakL_guess, isRow_own, isRow_unk, weakL_int, weakL_bool, weakL_str, weakL_own, weakL_view, weakL_nilS, noRow_int, noRow_bool, own_inj, LTree.val, cond_true, cond_false, Prod.mk.injEq, List.cons.injEq, AV.int.injEq, AV.bool.injEq, AV.str.injEq, AV.agg.injEq]; done) | (trace_state; fail)
      · have e' : ¬ r.2.2 = 0 := by omega
        simp only [if_neg e']
        refine ⟨fun h => absurd hq h, fun _ => ⟨⟨hq1, ho⟩, fun _ => ?_, fun h => absurd h e'⟩⟩
        simp [Tree.ok, tyd_inj, packAV, AV.same, AV.same.sameL, encV, encS, enc, inK, Nd.ok, List.headD_cons, List.cons_append, List.nil_append, List.append_nil, true_and, and_true, Bool.true_and, Bool.and_true, loop_next, weakBs_nil, weakBs_cons, weakB_self, weakB_row, weakB_int, weakL_nil, weakL_unk, weakL_guess, isRow_own, isRow_unk, weakL_int, weakL_bool, weakL_str, weakL_own, weakL_view, weakL_nilS, noRow_int, noRow_bool, own_inj, LTree.val, cond_true, cond_false, Prod.mk.injEq, List.cons.injEq, AV.int.injEq, AV.bool.injEq, AV.str.injEq, AV.agg.injEq]
    · simp only [if_neg hq]
      refine ⟨fun _ => ?_, fun h => absurd h hq⟩
      simp [Tree.ok, tyd_inj, packAV, AV.same, AV.same.sameL, encV, encS, enc, inK, Nd.ok, List.headD_cons, List.cons_append, List.nil_append, List.append_nil, true_and, and_true, Bool.true_and, Bool.and_true, loop_next, weakBs_nil, weakBs_cons, weakB_self, weakB_row, weakB_int, weakL_nil, weakL_unk, weakL_guess, isRow_own, isRow_unk, weakL_int, weakL_bool, weakL_str, weakL_own, weakL_view, weakL_nilS, noRow_int, noRow_bool, own_inj, LTree.val, cond_true, cond_false, Prod.mk.injEq, List.cons.injEq, AV.int.injEq, AV.bool.injEq, AV.str.injEq, AV.agg.injEq]
  · obtain rfl : k = n := by omega
    rw [show (k - k).toNat = 0 by omega]
    simp [Tree.ok, tyd_inj, packAV, AV.same, AV.same.sameL, encV, encS, enc, inK, Nd.ok, List.headD_cons, List.cons_append, List.nil_append, List.append_nil, true_and, and_true, Bool.true_and, Bool.and_true, loop_next, weakBs_nil, weakBs_cons, weakB_self, weakB_row, weakB_int, weakL_nil, weakL_unk, weakL_guess, isRow_own, isRow_unk, weakL_int, weakL_bool, weakL_str, weakL_own, weakL_view, weakL_nilS, noRow_int, noRow_bool, own_inj, LTree.val, cond_true, cond_false, Prod.mk.injEq, List.cons.injEq, AV.int.injEq, AV.bool.injEq, AV.str.injEq, AV.agg.injEq, stGo]
theorem loops_sStack : ∀ c, Tryz.f124.body = some c → LoopsOk Tryz.prog (addL (firstId (loopAt Tryz.f124 0)) ann_sStack_0 noL) Tryz.f124.ntmps c := loopsN fun i hi ann h => by
  have hn : loopN Tryz.f124 = 1 := by kernel_rfl
  rw [hn] at hi
  exact match i, hi, h with
    | 0, _, h => (Option.some.inj ((show (addL (firstId (loopAt Tryz.f124 0)) ann_sStack_0 noL) (firstId (loopAt Tryz.f124 0)) = some ann_sStack_0 from by kernel_rfl).symm.trans h)) ▸ loop_sStack_0
set_option maxHeartbeats 1000000 in
theorem sat_sStack : Sat Tryz.prog 124 ct_sStack := by
  refine sat_typed (C := C_Rb_1) (L := (addL (firstId (loopAt Tryz.f124 0)) ann_sStack_0 noL)) (wr := false) mixedOk Tryz.func124 C_Rb_1_ok (loops_sStack) (fun _ => by first | rfl | (simp [ownsOf, ownsOf.ownsL, enc, encV, encS])) fun x hp => ?_
  obtain ⟨(b : tFrac.den), (o : tFrac.den), (g : tFrac.den), (n : Int), _⟩ := x
  clear hp
  have htree : exFunc Tryz.prog C_Rb_1 false (addL (firstId (loopAt Tryz.f124 0)) ann_sStack_0 noL) Tryz.f124 (encA [.s tFrac, .s tFrac, .s tFrac, .v (.int .i64)] (b, o, g, n, ())) = .ite (!okF b.fst b.snd) (.leaf [.agg [.int .i64 ((0 : Int)), .int .i64 ((0 : Int)), .int .i64 ((0 : Int)), .int .i64 ((0 : Int)), .nilS], .int .i64 ((1 : Int))]) (.ite (!okF o.fst o.snd) (.leaf [.agg [.int .i64 ((0 : Int)), .int .i64 ((0 : Int)), .int .i64 ((0 : Int)), .int .i64 ((0 : Int)), .nilS], .int .i64 ((1 : Int))]) (.ite (!okF g.fst g.snd) (.leaf [.agg [.int .i64 ((0 : Int)), .int .i64 ((0 : Int)), .int .i64 ((0 : Int)), .int .i64 ((0 : Int)), .nilS], .int .i64 ((1 : Int))]) (.ite (decide (b.fst ≤ (0 : Int))) (.leaf [.agg [.int .i64 ((0 : Int)), .int .i64 ((0 : Int)), .int .i64 ((0 : Int)), .int .i64 ((0 : Int)), .nilS], .int .i64 ((2 : Int))]) (.ite (decide (g.fst ≤ (0 : Int))) (.leaf [.agg [.int .i64 ((0 : Int)), .int .i64 ((0 : Int)), .int .i64 ((0 : Int)), .int .i64 ((0 : Int)), .nilS], .int .i64 ((2 : Int))]) (.need ((((1 : Int) ≤ o.snd ∧ o.snd ≤ (1000000 : Int)) ∧ (-1000000000 : Int) ≤ o.fst ∧ o.fst ≤ (1000000000 : Int)) ∧ ((1 : Int) ≤ (1 : I64.den) ∧ (1 : I64.den) ≤ (1000000 : Int)) ∧ (-1000000000 : Int) ≤ (1 : I64.den) ∧ (1 : I64.den) ≤ (1000000000 : Int)) (.ite (decide (cmpF o.fst o.snd (1 : I64.den) (1 : I64.den) ≤ (0 : Int))) (.leaf [.agg [.int .i64 ((0 : Int)), .int .i64 ((0 : Int)), .int .i64 ((0 : Int)), .int .i64 ((0 : Int)), .nilS], .int .i64 ((2 : Int))]) (.ite (!inB n (1 : Int) (24 : Int)) (.leaf [.agg [.int .i64 ((0 : Int)), .int .i64 ((0 : Int)), .int .i64 ((0 : Int)), .int .i64 ((0 : Int)), .nilS], .int .i64 ((2 : Int))]) (.need (((1 : Int) ≤ (1 : Int) ∧ (1 : Int) ≤ n) ∧ n ≤ (24 : Int) ∧ PosF ((1 : I64.den), (1 : I64.den)) ∧ PosF (g.fst, g.snd) ∧ OctF (o.fst, o.snd) ∧ okFs [((1 : I64.den), (1 : I64.den))] = true ∧ (↑[((1 : I64.den), (1 : I64.den))].length : Int) = (1 : Int)) (.ite (decide ((stGo (o.fst, o.snd) (g.fst, g.snd) (n - (1 : Int)).toNat ((1 : I64.den), (1 : I64.den)) [((1 : I64.den), (1 : I64.den))]).snd = (0 : Int))) (.need ((↑(stGo (o.fst, o.snd) (g.fst, g.snd) (n - (1 : Int)).toNat ((1 : I64.den), (1 : I64.den)) [((1 : I64.den), (1 : I64.den))]).fst.length : Int) ≤ (9223372036854775807 : Int)) (.ite (!tuneF ((b.fst, b.snd), (o.fst, o.snd), (stGo (o.fst, o.snd) (g.fst, g.snd) (n - (1 : Int)).toNat ((1 : I64.den), (1 : I64.den)) [((1 : I64.den), (1 : I64.den))]).fst)) (.leaf [.agg [.int .i64 ((0 : Int)), .int .i64 ((0 : Int)), .int .i64 ((0 : Int)), .int .i64 ((0 : Int)), .nilS], .int .i64 ((4 : Int))]) (.leaf [.agg [.int .i64 (b.fst), .int .i64 (b.snd), .int .i64 (o.fst), .int .i64 (o.snd), .own (I64.pair I64) ((stGo (o.fst, o.snd) (g.fst, g.snd) (n - (1 : Int)).toNat ((1 : I64.den), (1 : I64.den)) [((1 : I64.den), (1 : I64.den))]).fst)], .int .i64 ((0 : Int))]))) (.leaf [.agg [.int .i64 ((0 : Int)), .int .i64 ((0 : Int)), .int .i64 ((0 : Int)), .int .i64 ((0 : Int)), .nilS], .int .i64 ((2 : Int))])))))))))) := by kernel_rfl
  refine (congrArg (Tree.ok _) htree).mpr ?_
  clear htree
  have eta : ∀ z : Fr, (z.1, z.2) = z := fun _ => rfl
  simp only [Tree.ok, tyd_inj, packAV, AV.same, AV.same.sameL, encV, encS, enc, inK, Nd.ok, List.headD_cons, List.cons_append, List.nil_append, List.append_nil, true_and, and_true, Bool.true_and, Bool.and_true, stackF, eta, decide_eq_true_eq, decide_eq_false_iff_not]
  cases h1 : okF b.1 b.2
  · simp [noT]
  cases h2 : okF o.1 o.2
  · simp [noT]
  cases h3 : okF g.1 g.2
  · simp [noT]
  have b2 := okF_bd h2
  simp only [Bool.not_true, Bool.false_eq_true, false_implies, true_implies, and_self, if_true]
  by_cases h4 : (b.1 : Int) ≤ 0
  · simp [h4, noT]
  by_cases h5 : (g.1 : Int) ≤ 0
  · simp [h4, h5, noT]
  by_cases h6 : cmpB o (1, 1) ≤ 0
  · have h6' : cmpF o.1 o.2 1 1 ≤ 0 := h6
    simp [h4, h5, h6, h6', noT]
    try omega
  have h6' : ¬ cmpF o.1 o.2 1 1 ≤ 0 := h6
  cases h7 : inB n 1 24
  · simp [h4, h5, h6, h6', noT]
    try exact ⟨b2, by decide, by decide⟩
    try omega
  have hn := (inB_iff n 1 24).1 h7
  have h8 : ¬ ((b.1 : Int) ≤ 0 ∨ (g.1 : Int) ≤ 0 ∨ cmpB o (1, 1) ≤ 0 ∨ true = false) := by simp [h4, h5, h6]
  have hg : PosF g := ⟨h3, Int.not_le.1 h5⟩
  have ho : OctF o := ⟨h2, by omega⟩
  have hone : PosF (1, 1) := ⟨by decide, by decide⟩
  simp only [if_neg h8, h4, h5, h6', false_implies, not_false_eq_true, true_implies, Bool.not_true, Bool.false_eq_true]
  have hl := stGo_len o g (n - 1).toNat (1, 1) [(1, 1)]
  generalize stGo o g (n - 1).toNat (1, 1) [(1, 1)] = G at *
  simp only [List.length_cons, List.length_nil] at hl
  simp only [true_and]
  refine ⟨⟨b2, by decide, by decide⟩, ⟨by omega, by omega, hone, hg, ho, rfl, by simp⟩, fun h9 => ?_, fun h9 => ?_⟩
  · simp only [if_pos h9]
    refine ⟨by omega, ?_⟩
    cases h10 : tuneF (b, o, G.1)
    · simp [noT, h6]
    · simp [h6]
  · simp [if_neg h9, noT, h6]
def C_Rb_2 : FuncId → Option Ct := addC 124 ct_sStack C_Rb_1
theorem C_Rb_2_ok : COk Tryz.prog C_Rb_2 := addC_ok C_Rb_1_ok sat_sStack

def C_Rb : FuncId → Option Ct := C_Rb_2
theorem C_Rb_ok : COk Tryz.prog C_Rb := C_Rb_2_ok
end Go.Proofs.YtkeckmdmmbeaiaaGreatDoor
