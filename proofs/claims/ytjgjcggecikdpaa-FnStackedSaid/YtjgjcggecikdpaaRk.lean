/- The law on stacked tunings that are drawn. Conditions: as each says. -/
import Derived.Test.YtjgjcggecikdpaaRi
set_option linter.unusedSimpArgs false
set_option linter.unusedVariables false
namespace Go.Proofs.Ytjgjcggecikdpaa
open Go.RowKit Sx
set_option maxRecDepth 100000
set_option maxHeartbeats 1000000
theorem redR_eq {r o : Fr} (hr : PosF r) (ho : OctF o) : redR r o = redF r o := by
  unfold redR
  have := hr.pos
  have := ho.big
  rw [if_pos ⟨hr.ok, ho.ok⟩, if_neg (by omega)]
theorem imGo_pre {o g : Fr} : ∀ (k : Nat) (l : Fr) (rs : List Fr), (imGo o g k l rs).2 = 0 → ∀ z ∈ rs ++ [l], z ∈ (imGo o g k l rs).1
  | 0, l, rs, _, z, hz => hz
  | k + 1, l, rs, h, z, hz => by
    unfold imGo at h ⊢
    split at h
    · rename_i h1
      rw [if_pos h1]
      split at h
      · rename_i h2
        rw [if_pos h2]
        exact imGo_pre k _ _ h z (List.mem_append.2 (.inl hz))
      · simp at h
    · simp at h
theorem stack_spec {b o g : Fr} {n : Int} (h : (stackF b o g n).2 = 0) : tuneF (stackF b o g n).1 = true ∧ ((stackF b o g n).1.1 = b ∧ (stackF b o g n).1.2.1 = o) ∧ (((stackF b o g n).1.2.2 : List tFrac.den).length : Int) = n ∧ (1 ≤ n ∧ n ≤ 24) ∧
    PosF g ∧ OctF o ∧ ∃ im rs0, imGo o g (n - 1).toNat (1, 1) rs0 = (im, 0) ∧ ∀ z ∈ im, z ∈ ((stackF b o g n).1.2.2 : List tFrac.den) := by
  unfold stackF at h ⊢
  split at h
  · rename_i h1
    rw [if_pos h1]
    split at h
    · simp at h
    · rename_i h2
      rw [if_neg h2]
      have hn : 1 ≤ n ∧ n ≤ 24 := by
        refine (inB_iff n 1 24).1 ?_
        cases h7 : inB n 1 24
        · exact absurd (.inr (.inr (.inr h7))) h2
        · rfl
      have hg : PosF g := ⟨h1.2.2, by omega⟩
      have ho : OctF o := ⟨h1.2.1, by omega⟩
      have hone : PosF (1, 1) := ⟨by decide, by decide⟩
      have hI := imGo_ok ho hg (n - 1).toNat (1, 1) [] hone rfl
      rw [show sortFr ([] ++ [(1, 1)]) = [(1, 1)] from rfl] at hI
      obtain ⟨i1, i2, i3⟩ := hI
      rw [i3] at h ⊢
      dsimp only at h ⊢
      split at h
      · rename_i h3
        rw [if_pos h3]
        split at h
        · rename_i h4
          rw [if_pos h4]
          have hl := i2 h3
          refine ⟨h4, ⟨rfl, rfl⟩, ?_, hn, hg, ho, (imGo o g (n - 1).toNat (1, 1) []).1, [], Prod.ext rfl h3, fun z hz => srtF_perm.symm.subset hz⟩
          show ((sortFr (imGo o g (n - 1).toNat (1, 1) []).1).length : Int) = n
          unfold sortFr
          rw [srt_len, hl]
          simp only [List.length_nil]
          omega
        · simp at h
      · simp at h
  · simp at h
def ct_sValidTuning : Ct := ctOf [.s tTuning] (fun ((x : tTuning.den), _) => .p (((x.2.2 : List tFrac.den).length : Int) ≤ 9223372036854775807)) (fun ((x : tTuning.den), _) => .bool (tuneF x))
set_option maxHeartbeats 1000000 in
theorem sat_sValidTuning : Sat Try.prog 60 ct_sValidTuning := by
  refine sat_typed (C := C_Ri) (L := noL) (wr := false) mixedOk Try.func60 C_Ri_ok (loops0 (by kernel_rfl)) (fun _ => by first | rfl | (simp [ownsOf, ownsOf.ownsL, enc, encV, encS])) fun x hp => ?_
  obtain ⟨(x : tTuning.den), _⟩ := x
  replace hp : ((x.2.2 : List tFrac.den).length : Int) ≤ 9223372036854775807 := hp
  have htree : exFunc Try.prog C_Ri false noL Try.f60 (encA [.s tTuning] (x, ())) = .need ((↑(List.length x.snd.snd) : Int) ≤ (9223372036854775807 : Int)) (.leaf [.bool (tuneF x)]) := by kernel_rfl
  refine (congrArg (Tree.ok _) htree).mpr ?_
  clear htree
  simp only [Tree.ok, tyd_inj, packAV, AV.same, AV.same.sameL, encV, encS, enc, inK, Nd.ok, List.headD_cons, List.cons_append, List.nil_append, List.append_nil, true_and, and_true, Bool.true_and, Bool.and_true]
  repeat' first | apply And.intro | intro _
  all_goals first | omega | assumption | trivial | rfl
def C_Rk_1 : FuncId → Option Ct := addC 60 ct_sValidTuning C_Ri
theorem C_Rk_1_ok : COk Try.prog C_Rk_1 := addC_ok C_Ri_ok sat_sValidTuning
def ct_sCompareFracS : Ct := ctOf [.s tFrac, .s tFrac] (fun _ => .tt) (fun (((a : Int), (b : Int)), ((c : Int), (d : Int)), _) => .int .i64 (if okF a b = true ∧ okF c d = true then cmpF a b c d else 0))
set_option maxHeartbeats 1000000 in
theorem sat_sCompareFracS : Sat Try.prog 57 ct_sCompareFracS := by
  refine sat_typed (C := C_Rk_1) (L := noL) (wr := false) mixedOk Try.func57 C_Rk_1_ok (loops0 (by kernel_rfl)) (fun _ => by first | rfl | (simp [ownsOf, ownsOf.ownsL, enc, encV, encS])) fun x hp => ?_
  obtain ⟨⟨(a : Int), (b : Int)⟩, ⟨(c : Int), (d : Int)⟩, _⟩ := x
  clear hp
  have htree : exFunc Try.prog C_Rk_1 false noL Try.f57 (encA [.s tFrac, .s tFrac] ((a, b), (c, d), ())) = .ite (!okF a b) (.leaf [.int .i64 ((0 : Int))]) (.ite (!okF c d) (.leaf [.int .i64 ((0 : Int))]) (.need ((((1 : Int) ≤ b ∧ b ≤ (1000000 : Int)) ∧ (-1000000000 : Int) ≤ a ∧ a ≤ (1000000000 : Int)) ∧ ((1 : Int) ≤ d ∧ d ≤ (1000000 : Int)) ∧ (-1000000000 : Int) ≤ c ∧ c ≤ (1000000000 : Int)) (.leaf [.int .i64 (cmpF a b c d)]))) := by kernel_rfl
  refine (congrArg (Tree.ok _) htree).mpr ?_
  clear htree
  have h1 := @okF_bd a b
  have h2 := @okF_bd c d
  simp only [Tree.ok, tyd_inj, packAV, AV.same, AV.same.sameL, encV, encS, enc, inK, Nd.ok, List.headD_cons, List.cons_append, List.nil_append, List.append_nil, true_and, and_true, Bool.true_and, Bool.and_true]
  repeat' first | apply And.intro | intro _
  all_goals first | omega | (simp_all; done) | (simp_all; omega) | grind
def C_Rk_2 : FuncId → Option Ct := addC 57 ct_sCompareFracS C_Rk_1
theorem C_Rk_2_ok : COk Try.prog C_Rk_2 := addC_ok C_Rk_1_ok sat_sCompareFracS
def ann_lawStacked_0 : LAnn := { sameS := [4, 5, 6, 7, 9], modS := [10], sameH := [4, 5, 7, 32], modH := [9], base := 900000, nilE := [], nilB := [], G := fun
  | ⟨[.ptr 4 0, .ptr 5 0, .int .i64 n, .ptr 7 0, .ptr 9 0], [.box [.int .i64 o1, .int .i64 o2], .box [.int .i64 g1, .int .i64 g2], .box [.int .i64 b1, .int .i64 b2, .int .i64 p1, .int .i64 p2, .row 32], .row (.pair (.int .i64) (.int .i64)) rs], [.int .i64 k], [[.int .i64 l1, .int .i64 l2]]⟩ => some (.p ((1 ≤ k ∧ k ≤ n) ∧ n ≤ 24 ∧ (rs.length : Int) = n ∧ PosF (l1, l2) ∧ PosF (g1, g2) ∧ OctF (o1, o2) ∧ ∃ im rs0, imGo (o1, o2) (g1, g2) (n - k).toNat (l1, l2) rs0 = (im, 0) ∧ ∀ z ∈ im, z ∈ rs), .leaf (.exit 0) [.unk] [[.unk, .unk]])
  | _ => none }
def ann_lawStacked_1 : LAnn := { sameS := [4, 5, 6, 7, 9, 10, 13], modS := [16, 17], sameH := [4, 5, 7, 9, 13, 32], modH := [], base := 950000, nilE := [], nilB := [], G := fun
  | ⟨[.ptr 4 0, .ptr 5 0, .int .i64 n, .ptr 7 0, .ptr 9 0, .int .i64 k, .ptr 13 0], [.box [.int .i64 o1, .int .i64 o2], .box [.int .i64 g1, .int .i64 g2], .box [.int .i64 b1, .int .i64 b2, .int .i64 p1, .int .i64 p2, .row 32], .box [.int .i64 l1, .int .i64 l2], .box [.int .i64 y1, .int .i64 y2], .row (.pair (.int .i64) (.int .i64)) rs], [.bool f, .int .i64 i], []⟩ => some (.p ((0 ≤ i ∧ i ≤ (rs.length : Int)) ∧ rs.length ≤ 24), .leaf (.exit 2) [.bool (f || (rs.drop i.toNat).any fun z => z.1 == y1 && z.2 == y2), .unk] [])
  | _ => none }
def ct_lawStacked : Ct := ctOf [.v (.seq (.int .u8))] (fun ((code : List (Ty.int .u8).den), _) => .p (bytesOk code)) (fun ((code : List (Ty.int .u8).den), _) => .bool true)
set_option maxHeartbeats 1000000 in
theorem loop_lawStacked_1 : LoopSat Try.prog Try.f12.ntmps (loopAt Try.f12 1) ann_lawStacked_1 := by
  refine loopSat_of (C := C_Rk_2) (L := (addL (firstId (loopAt Try.f12 1)) ann_lawStacked_1 (addL (firstId (loopAt Try.f12 0)) ann_lawStacked_0 noL))) (wr := false) mixedOk C_Rk_2_ok (loopsIn0 (by kernel_rfl)) (fun d => match d.blk, d.vals with | [_, _, _, _, _, .row _ rs], [_, .int _ i] => ((rs.length : Int) - i).toNat | _, _ => 0) fun d p t hG hp => ?_
  simp only [ann_lawStacked_1] at hG
  split at hG
  rotate_left
  · simp at hG
  rename_i n k o1 o2 g1 g2 b1 b2 p1 p2 l1 l2 y1 y2 rs f i
  simp only [Option.some.injEq, Prod.mk.injEq] at hG
  obtain ⟨rfl, rfl⟩ := hG
  have htree : exRound Try.prog C_Rk_2 false (addL (firstId (loopAt Try.f12 1)) ann_lawStacked_1 (addL (firstId (loopAt Try.f12 0)) ann_lawStacked_0 noL)) Try.f12.ntmps ann_lawStacked_1 (loopAt Try.f12 1) ⟨[.ptr 4 0, .ptr 5 0, .int .i64 n, .ptr 7 0, .ptr 9 0, .int .i64 k, .ptr 13 0], [.box [.int .i64 o1, .int .i64 o2], .box [.int .i64 g1, .int .i64 g2], .box [.int .i64 b1, .int .i64 b2, .int .i64 p1, .int .i64 p2, .row 32], .box [.int .i64 l1, .int .i64 l2], .box [.int .i64 y1, .int .i64 y2], .row tFrac rs], [.bool f, .int .i64 i], []⟩ = .ite (decide (i < (↑rs.length : Int))) (.ite (f) (.need (inK IntKind.i64 (i + (1 : Int))) (.leaf (.normal, ⟨[.ptr 4 0, .ptr 5 0, .int .i64 (n), .ptr 7 0, .ptr 9 0, .int .i64 (k), .ptr 13 0], [.box [.int .i64 (o1), .int .i64 (o2)], .box [.int .i64 (g1), .int .i64 (g2)], .box [.int .i64 (b1), .int .i64 (b2), .int .i64 (p1), .int .i64 (p2), .row 32], .box [.int .i64 (l1), .int .i64 (l2)], .box [.int .i64 (y1), .int .i64 (y2)], .row (I64.pair I64) (rs)], [.bool (true), .int .i64 (i + (1 : Int))], []⟩))) (.need ((0 : Int) ≤ i ∧ i < (↑rs.length : Int)) (.need (i.toNat < rs.length) (.need (inK IntKind.i64 (i + (1 : Int))) (.leaf (.normal, ⟨[.ptr 4 0, .ptr 5 0, .int .i64 (n), .ptr 7 0, .ptr 9 0, .int .i64 (k), .ptr 13 0], [.box [.int .i64 (o1), .int .i64 (o2)], .box [.int .i64 (g1), .int .i64 (g2)], .box [.int .i64 (b1), .int .i64 (b2), .int .i64 (p1), .int .i64 (p2), .row 32], .box [.int .i64 (l1), .int .i64 (l2)], .box [.int .i64 (y1), .int .i64 (y2)], .row (I64.pair I64) (rs)], [.bool ((rs.getD i.toNat tFrac.zero).fst == y1 && (rs.getD i.toNat tFrac.zero).snd == y2), .int .i64 (i + (1 : Int))], []⟩)))))) (.leaf ((.exit 2), ⟨[.ptr 4 0, .ptr 5 0, .int .i64 (n), .ptr 7 0, .ptr 9 0, .int .i64 (k), .ptr 13 0], [.box [.int .i64 (o1), .int .i64 (o2)], .box [.int .i64 (g1), .int .i64 (g2)], .box [.int .i64 (b1), .int .i64 (b2), .int .i64 (p1), .int .i64 (p2), .row 32], .box [.int .i64 (l1), .int .i64 (l2)], .box [.int .i64 (y1), .int .i64 (y2)], .row (I64.pair I64) (rs)], [.bool (f), .int .i64 (i)], []⟩)) := by kernel_rfl
  rw [htree]
  clear htree
  replace hp : (0 ≤ i ∧ i ≤ (rs.length : Int)) ∧ rs.length ≤ 24 := hp
  obtain ⟨hi, hl⟩ := hp
  simp only [Tree.ok, tyd_inj, packAV, AV.same, AV.same.sameL, encV, encS, enc, inK, Nd.ok, List.headD_cons, List.cons_append, List.nil_append, List.append_nil, true_and, and_true, Bool.true_and, Bool.and_true, loop_next, weakBs_nil, weakBs_cons, weakB_self, weakB_row, weakB_int, weakL_nil, weakL_unk, weakL_guess, isRow_own, isRow_unk, weakL_int, weakL_bool, weakL_str, weakL_own, weakL_view, weakL_nilS, noRow_int, noRow_bool, own_inj, LTree.val, cond_true, cond_false, Prod.mk.injEq, List.cons.injEq, AV.int.injEq, AV.bool.injEq, AV.str.injEq, AV.agg.injEq, ann_lawStacked_1, decide_eq_true_eq, decide_eq_false_iff_not]
  refine ⟨fun ha => ?_, fun ha => ?_⟩
  · have hd : (rs.drop i.toNat).any (fun z => z.1 == y1 && z.2 == y2) = (((rs.getD i.toNat tFrac.zero).1 == y1 && (rs.getD i.toNat tFrac.zero).2 == y2) || (rs.drop (i.toNat + 1)).any (fun z => z.1 == y1 && z.2 == y2)) := by
      rw [getD_lt _ _ _ (by omega), List.drop_eq_getElem_cons (by omega)]
      rfl
    rw [hd, show (i + 1).toNat = i.toNat + 1 by omega]
    cases f
    · simp only [Bool.false_or, Bool.false_eq_true, false_implies, true_implies]
      repeat' first | apply And.intro | intro _
      all_goals first | omega | trivial | rfl | contradiction
    · simp only [Bool.true_or, Bool.true_eq_false, false_implies, true_implies, and_true]
      repeat' first | apply And.intro | intro _
      all_goals first | omega | trivial | rfl | contradiction
  · rw [List.drop_eq_nil_of_le (by omega)]
    simp [Tree.ok, tyd_inj, packAV, AV.same, AV.same.sameL, encV, encS, enc, inK, Nd.ok, List.headD_cons, List.cons_append, List.nil_append, List.append_nil, true_and, and_true, Bool.true_and, Bool.and_true, loop_next, weakBs_nil, weakBs_cons, weakB_self, weakB_row, weakB_int, weakL_nil, weakL_unk, weakL_guess, isRow_own, isRow_unk, weakL_int, weakL_bool, weakL_str, weakL_own, weakL_view, weakL_nilS, noRow_int, noRow_bool, own_inj, LTree.val, cond_true, cond_false, Prod.mk.injEq, List.cons.injEq, AV.int.injEq, AV.bool.injEq, AV.str.injEq, AV.agg.injEq]
set_option maxHeartbeats 1000000 in
theorem loop_lawStacked_0 : LoopSat Try.prog Try.f12.ntmps (loopAt Try.f12 0) ann_lawStacked_0 := by
  refine loopSat_of (C := C_Rk_2) (L := (addL (firstId (loopAt Try.f12 1)) ann_lawStacked_1 (addL (firstId (loopAt Try.f12 0)) ann_lawStacked_0 noL))) (wr := false) mixedOk C_Rk_2_ok (loopsIn1 (b := loopAt Try.f12 1) (by kernel_rfl) (fun ann h => (Option.some.inj ((show (addL (firstId (loopAt Try.f12 1)) ann_lawStacked_1 (addL (firstId (loopAt Try.f12 0)) ann_lawStacked_0 noL)) (firstId (loopAt Try.f12 1)) = some ann_lawStacked_1 from by kernel_rfl).symm.trans h)) ▸ loop_lawStacked_1)) (fun d => match d.same, d.vals with | [_, _, .int _ n, _, _], [.int _ k] => (n - k).toNat | _, _ => 0) fun d p t hG hp => ?_
  simp only [ann_lawStacked_0] at hG
  split at hG
  rotate_left
  · simp at hG
  rename_i n o1 o2 g1 g2 b1 b2 p1 p2 rs k l1 l2
  simp only [Option.some.injEq, Prod.mk.injEq] at hG
  obtain ⟨rfl, rfl⟩ := hG
  have htree : exRound Try.prog C_Rk_2 false (addL (firstId (loopAt Try.f12 1)) ann_lawStacked_1 (addL (firstId (loopAt Try.f12 0)) ann_lawStacked_0 noL)) Try.f12.ntmps ann_lawStacked_0 (loopAt Try.f12 0) ⟨[.ptr 4 0, .ptr 5 0, .int .i64 n, .ptr 7 0, .ptr 9 0], [.box [.int .i64 o1, .int .i64 o2], .box [.int .i64 g1, .int .i64 g2], .box [.int .i64 b1, .int .i64 b2, .int .i64 p1, .int .i64 p2, .row 32], .row tFrac rs], [.int .i64 k], [[.int .i64 l1, .int .i64 l2]]⟩ = .ite (decide (k < n)) (.ite ((mulF l1 l2 g1 g2).snd != (0 : Int)) (.leaf (.ret, ⟨[.ptr 4 0, .ptr 5 0, .int .i64 (n), .ptr 7 0, .ptr 9 0], [.box [.int .i64 (o1), .int .i64 (o2)], .box [.int .i64 (g1), .int .i64 (g2)], .box [.int .i64 (b1), .int .i64 (b2), .int .i64 (p1), .int .i64 (p2), .row 32], .row (I64.pair I64) (rs)], [.int .i64 (k)], [[.int .i64 (l1), .int .i64 (l2)]]⟩)) (.ite ((redR (mulF l1 l2 g1 g2).fst (o1, o2)).snd.snd != (0 : Int)) (.leaf (.ret, ⟨[.ptr 4 0, .ptr 5 0, .int .i64 (n), .ptr 7 0, .ptr 9 0], [.box [.int .i64 (o1), .int .i64 (o2)], .box [.int .i64 (g1), .int .i64 (g2)], .box [.int .i64 (b1), .int .i64 (b2), .int .i64 (p1), .int .i64 (p2), .row 32], .row (I64.pair I64) (rs)], [.int .i64 (k)], [[.int .i64 (l1), .int .i64 (l2)]]⟩)) (.ite (decide ((0 : Int) ≤ if okF (redR (mulF l1 l2 g1 g2).fst (o1, o2)).fst.fst (redR (mulF l1 l2 g1 g2).fst (o1, o2)).fst.snd = true ∧ okF o1 o2 = true then cmpF (redR (mulF l1 l2 g1 g2).fst (o1, o2)).fst.fst (redR (mulF l1 l2 g1 g2).fst (o1, o2)).fst.snd o1 o2 else (0 : Int))) (.leaf (.ret, ⟨[.ptr 4 0, .ptr 5 0, .int .i64 (n), .ptr 7 0, .ptr 9 0], [.box [.int .i64 (o1), .int .i64 (o2)], .box [.int .i64 (g1), .int .i64 (g2)], .box [.int .i64 (b1), .int .i64 (b2), .int .i64 (p1), .int .i64 (p2), .row 32], .row (I64.pair I64) (rs)], [.int .i64 (k)], [[.int .i64 (l1), .int .i64 (l2)]]⟩)) (.ite (decide ((if okF (redR (mulF l1 l2 g1 g2).fst (o1, o2)).fst.fst (redR (mulF l1 l2 g1 g2).fst (o1, o2)).fst.snd = true ∧ okF (1 : Int) (1 : Int) = true then cmpF (redR (mulF l1 l2 g1 g2).fst (o1, o2)).fst.fst (redR (mulF l1 l2 g1 g2).fst (o1, o2)).fst.snd (1 : Int) (1 : Int) else (0 : Int)) < (0 : Int))) (.leaf (.ret, ⟨[.ptr 4 0, .ptr 5 0, .int .i64 (n), .ptr 7 0, .ptr 9 0], [.box [.int .i64 (o1), .int .i64 (o2)], .box [.int .i64 (g1), .int .i64 (g2)], .box [.int .i64 (b1), .int .i64 (b2), .int .i64 (p1), .int .i64 (p2), .row 32], .row (I64.pair I64) (rs)], [.int .i64 (k)], [[.int .i64 (l1), .int .i64 (l2)]]⟩)) (.need (((0 : Int) ≤ (0 : Int) ∧ (0 : Int) ≤ (↑rs.length : Int)) ∧ rs.length ≤ (24 : Nat)) (.ite (!(false || (List.drop (Int.toNat (0 : Int)) rs).any fun (z : ((Ty.int IntKind.i64).pair (Ty.int IntKind.i64)).den) => z.fst == (redR (mulF l1 l2 g1 g2).fst (o1, o2)).fst.fst && z.snd == (redR (mulF l1 l2 g1 g2).fst (o1, o2)).fst.snd)) (.leaf (.ret, ⟨[.ptr 4 0, .ptr 5 0, .int .i64 (n), .ptr 7 0, .ptr 9 0], [.box [.int .i64 (o1), .int .i64 (o2)], .box [.int .i64 (g1), .int .i64 (g2)], .box [.int .i64 (b1), .int .i64 (b2), .int .i64 (p1), .int .i64 (p2), .row 32], .row (I64.pair I64) (rs)], [.int .i64 (k)], [[.int .i64 (l1), .int .i64 (l2)]]⟩)) (.need (inK IntKind.i64 (k + (1 : Int))) (.leaf (.normal, ⟨[.ptr 4 0, .ptr 5 0, .int .i64 (n), .ptr 7 0, .ptr 9 0], [.box [.int .i64 (o1), .int .i64 (o2)], .box [.int .i64 (g1), .int .i64 (g2)], .box [.int .i64 (b1), .int .i64 (b2), .int .i64 (p1), .int .i64 (p2), .row 32], .row (I64.pair I64) (rs)], [.int .i64 (k + (1 : Int))], [[.int .i64 ((redR (mulF l1 l2 g1 g2).fst (o1, o2)).fst.fst), .int .i64 ((redR (mulF l1 l2 g1 g2).fst (o1, o2)).fst.snd)]]⟩))))))))) (.leaf ((.exit 0), ⟨[.ptr 4 0, .ptr 5 0, .int .i64 (n), .ptr 7 0, .ptr 9 0], [.box [.int .i64 (o1), .int .i64 (o2)], .box [.int .i64 (g1), .int .i64 (g2)], .box [.int .i64 (b1), .int .i64 (b2), .int .i64 (p1), .int .i64 (p2), .row 32], .row (I64.pair I64) (rs)], [.int .i64 (k)], [[.int .i64 (l1), .int .i64 (l2)]]⟩)) := by kernel_rfl
  rw [htree]
  clear htree
  replace hp : (1 ≤ k ∧ k ≤ n) ∧ n ≤ 24 ∧ (rs.length : Int) = n ∧ PosF (l1, l2) ∧ PosF (g1, g2) ∧ OctF (o1, o2) ∧ ∃ im rs0, imGo (o1, o2) (g1, g2) (n - k).toNat (l1, l2) rs0 = (im, 0) ∧ ∀ z ∈ im, z ∈ rs := hp
  obtain ⟨hk, hn, hlen, hl, hg, ho, im, rs0, him, hmem⟩ := hp
  have eta : ∀ z : Fr, (z.1, z.2) = z := fun _ => rfl
  have hoo := ho.ok
  simp only [Tree.ok, tyd_inj, packAV, AV.same, AV.same.sameL, encV, encS, enc, inK, Nd.ok, List.headD_cons, List.cons_append, List.nil_append, List.append_nil, true_and, and_true, Bool.true_and, Bool.and_true, loop_next, weakBs_nil, weakBs_cons, weakB_self, weakB_row, weakB_int, weakL_nil, weakL_unk, weakL_guess, isRow_own, isRow_unk, weakL_int, weakL_bool, weakL_str, weakL_own, weakL_view, weakL_nilS, noRow_int, noRow_bool, own_inj, LTree.val, cond_true, cond_false, Prod.mk.injEq, List.cons.injEq, AV.int.injEq, AV.bool.injEq, AV.str.injEq, AV.agg.injEq, ann_lawStacked_0, eta, decide_eq_true_eq, decide_eq_false_iff_not, bne_iff_ne, ne_eq, bne_eq_false_iff_eq, beq_iff_eq, beq_eq_false_iff_ne, Int.toNat_zero, List.drop_zero, Bool.false_or]
  refine ⟨fun ha => ?_, fun ha => ?_⟩
  · rw [show (n - k).toNat = (n - (k + 1)).toNat + 1 by omega] at him
    unfold imGo at him
    rw [mulF_comm] at him
    simp only at him hoo
    have hmp := fun h => mul_posG hl hg h
    simp only at hmp
    generalize mulF l1 l2 g1 g2 = q at *
    by_cases hq : q.2 = 0
    · rw [if_pos hq] at him
      have hq1 := hmp hq
      have hred := red_spec ho hq1
      rw [redR_eq hq1 ho]
      generalize redF q.1 (o1, o2) = r at *
      by_cases he : r.2.2 = 0
      · rw [if_pos he] at him
        obtain ⟨_, hP, c1, c2⟩ := hred.resolve_right (by omega)
        have hin := imGo_pre _ r.1 (rs0 ++ [(l1, l2)]) (by rw [him]) r.1 (by simp)
        rw [him] at hin
        have hf : (rs.any fun z => z.1 == r.1.1 && z.2 == r.1.2) = true := List.any_eq_true.2 ⟨r.1, hmem _ hin, by simp⟩
        have c1' : cmpF r.1.1 r.1.2 o1 o2 < 0 := c1
        have c2' : 0 ≤ cmpF r.1.1 r.1.2 1 1 := c2
        rw [if_pos ⟨hP.ok, hoo⟩, if_pos ⟨hP.ok, show okF 1 1 = true by decide⟩, hf]
        refine ⟨fun h => absurd hq h, fun _ => ⟨fun h => absurd he h, fun _ => ⟨fun h => absurd h (by omega), fun _ => ⟨fun h => absurd h (by omega), fun _ => ⟨⟨⟨by omega, by omega⟩, by omega⟩, fun h => by simp at h, fun _ => ?_⟩⟩⟩⟩⟩
        have hfin : (1 ≤ k + 1 ∧ k + 1 ≤ n) ∧ n ≤ 24 ∧ (rs.length : Int) = n ∧ PosF r.1 ∧ PosF (g1, g2) ∧ OctF (o1, o2) ∧ ∃ im rs0, imGo (o1, o2) (g1, g2) (n - (k + 1)).toNat r.1 rs0 = (im, 0) ∧ ∀ z ∈ im, z ∈ rs :=
          ⟨⟨by omega, by omega⟩, hn, hlen, hP, hg, ho, im, _, him, hmem⟩
        repeat' first | apply And.intro | intro _
        all_goals first | omega | exact hfin | assumption | exact hfin.2.2.2.2.2.2 | trivial | rfl | contradiction | (trace_state; fail)
      · rw [if_neg he] at him
        simp at him
    · rw [if_neg hq] at him
      simp at him
  · simp [Tree.ok, tyd_inj, packAV, AV.same, AV.same.sameL, encV, encS, enc, inK, Nd.ok, List.headD_cons, List.cons_append, List.nil_append, List.append_nil, true_and, and_true, Bool.true_and, Bool.and_true, loop_next, weakBs_nil, weakBs_cons, weakB_self, weakB_row, weakB_int, weakL_nil, weakL_unk, weakL_guess, isRow_own, isRow_unk, weakL_int, weakL_bool, weakL_str, weakL_own, weakL_view, weakL_nilS, noRow_int, noRow_bool, own_inj, LTree.val, cond_true, cond_false, Prod.mk.injEq, List.cons.injEq, AV.int.injEq, AV.bool.injEq, AV.str.injEq, AV.agg.injEq]
theorem loops_lawStacked : ∀ c, Try.f12.body = some c → LoopsOk Try.prog (addL (firstId (loopAt Try.f12 1)) ann_lawStacked_1 (addL (firstId (loopAt Try.f12 0)) ann_lawStacked_0 noL)) Try.f12.ntmps c := loopsN fun i hi ann h => by
  have hn : loopN Try.f12 = 2 := by kernel_rfl
  rw [hn] at hi
  exact match i, hi, h with
    | 0, _, h => (Option.some.inj ((show (addL (firstId (loopAt Try.f12 1)) ann_lawStacked_1 (addL (firstId (loopAt Try.f12 0)) ann_lawStacked_0 noL)) (firstId (loopAt Try.f12 0)) = some ann_lawStacked_0 from by kernel_rfl).symm.trans h)) ▸ loop_lawStacked_0
    | 1, _, h => (Option.some.inj ((show (addL (firstId (loopAt Try.f12 1)) ann_lawStacked_1 (addL (firstId (loopAt Try.f12 0)) ann_lawStacked_0 noL)) (firstId (loopAt Try.f12 1)) = some ann_lawStacked_1 from by kernel_rfl).symm.trans h)) ▸ loop_lawStacked_1
set_option maxHeartbeats 1000000 in
theorem sat_lawStacked : Sat Try.prog 12 ct_lawStacked := by
  refine sat_typed (C := C_Rk_2) (L := (addL (firstId (loopAt Try.f12 1)) ann_lawStacked_1 (addL (firstId (loopAt Try.f12 0)) ann_lawStacked_0 noL))) (wr := false) mixedOk Try.func12 C_Rk_2_ok (loops_lawStacked) (fun _ => by first | rfl | (simp [ownsOf, ownsOf.ownsL, enc, encV, encS])) fun x hp => ?_
  obtain ⟨(code : List (Ty.int .u8).den), _⟩ := x
  replace hp : bytesOk code := hp
  have htree : exFunc Try.prog C_Rk_2 false (addL (firstId (loopAt Try.f12 1)) ann_lawStacked_1 (addL (firstId (loopAt Try.f12 0)) ann_lawStacked_0 noL)) Try.f12 (encA [.v (.seq (.int .u8))] (code, ())) = .ite (decide ((3000 : Int) < (↑code.length : Int)) || decide ((3000 : Int) < (↑(0 : Nat) : Int))) (.leaf [.lit true]) (.need (bytesOk code) (.ite ((stackF (dStack code).fst (dStack code).snd.fst (dStack code).snd.snd.fst (dStack code).snd.snd.snd).snd != (0 : Int)) (.leaf [.lit true]) (.need ((↑(List.length (stackF (dStack code).fst (dStack code).snd.fst (dStack code).snd.snd.fst (dStack code).snd.snd.snd).fst.snd.snd) : Int) ≤ (9223372036854775807 : Int)) (.ite (!tuneF (stackF (dStack code).fst (dStack code).snd.fst (dStack code).snd.snd.fst (dStack code).snd.snd.snd).fst) (.leaf [.lit false]) (.ite ((↑(List.length (stackF (dStack code).fst (dStack code).snd.fst (dStack code).snd.snd.fst (dStack code).snd.snd.snd).fst.snd.snd) : Int) != (dStack code).snd.snd.snd) (.leaf [.lit false]) (.ite (!((stackF (dStack code).fst (dStack code).snd.fst (dStack code).snd.snd.fst (dStack code).snd.snd.snd).fst.fst.fst == (dStack code).fst.fst && (stackF (dStack code).fst (dStack code).snd.fst (dStack code).snd.snd.fst (dStack code).snd.snd.snd).fst.fst.snd == (dStack code).fst.snd)) (.leaf [.lit false]) (.ite (!((stackF (dStack code).fst (dStack code).snd.fst (dStack code).snd.snd.fst (dStack code).snd.snd.snd).fst.snd.fst.fst == (dStack code).snd.fst.fst && (stackF (dStack code).fst (dStack code).snd.fst (dStack code).snd.snd.fst (dStack code).snd.snd.snd).fst.snd.fst.snd == (dStack code).snd.fst.snd)) (.leaf [.lit false]) (.need (((1 : Int) ≤ (1 : Int) ∧ (1 : Int) ≤ (dStack code).snd.snd.snd) ∧ (dStack code).snd.snd.snd ≤ (24 : Int) ∧ (↑(List.length (stackF (dStack code).fst (dStack code).snd.fst (dStack code).snd.snd.fst (dStack code).snd.snd.snd).fst.snd.snd) : Int) = (dStack code).snd.snd.snd ∧ PosF ((1 : Int), (1 : Int)) ∧ PosF (dStack code).snd.snd.fst ∧ OctF (dStack code).snd.fst ∧ ∃ (im : List Fr), ∃ (rs0 : List Fr), imGo (dStack code).snd.fst (dStack code).snd.snd.fst ((dStack code).snd.snd.snd - (1 : Int)).toNat ((1 : Int), (1 : Int)) rs0 = (im, (0 : Int)) ∧ ∀ (z : Fr), z ∈ im → z ∈ (stackF (dStack code).fst (dStack code).snd.fst (dStack code).snd.snd.fst (dStack code).snd.snd.snd).fst.snd.snd) (.leaf [.lit true]))))))))) := by kernel_rfl
  refine (congrArg (Tree.ok _) htree).mpr ?_
  clear htree
  have eta : ∀ z : Fr, (z.1, z.2) = z := fun _ => rfl
  simp only [Tree.ok, tyd_inj, packAV, AV.same, AV.same.sameL, encV, encS, enc, inK, Nd.ok, List.headD_cons, List.cons_append, List.nil_append, List.append_nil, true_and, and_true, Bool.true_and, Bool.and_true, eta, decide_eq_true_eq, decide_eq_false_iff_not, bne_iff_ne, ne_eq, bne_eq_false_iff_eq, beq_iff_eq]
  have hs := fun h => stack_spec (b := (dStack code).1) (o := (dStack code).2.1) (g := (dStack code).2.2.1) (n := (dStack code).2.2.2) h
  generalize stackF (dStack code).1 (dStack code).2.1 (dStack code).2.2.1 (dStack code).2.2.2 = T at *
  generalize dStack code = D at *
  by_cases h : T.2 = 0
  · obtain ⟨s1, ⟨s2, s2'⟩, s3, s4, s5, s6, s7⟩ := hs h
    have hone : PosF (1, 1) := ⟨by decide, by decide⟩
    rw [s1, s2, s2']
    have hfin : ((1 : Int) ≤ 1 ∧ 1 ≤ D.2.2.2) ∧ D.2.2.2 ≤ 24 ∧ (List.length T.1.2.2 : Int) = D.2.2.2 ∧ PosF (1, 1) ∧ PosF D.2.2.1 ∧ OctF D.2.1 ∧ ∃ im rs0, imGo D.2.1 D.2.2.1 (D.2.2.2 - 1).toNat (1, 1) rs0 = (im, 0) ∧ ∀ z ∈ im, z ∈ T.1.2.2 :=
      ⟨⟨by omega, s4.1⟩, s4.2, s3, hone, s5, s6, s7⟩
    repeat' first | apply And.intro | intro _
    all_goals first | omega | exact hp | exact (hp _ ‹_›).1 | exact (hp _ ‹_›).2 | exact hfin | assumption | exact hfin.2.2.2.2.2.2 | trivial | rfl | contradiction | (simp_all; done) | (trace_state; fail)
  · repeat' first | apply And.intro | intro _
    all_goals first | omega | exact hp | exact (hp _ ‹_›).1 | exact (hp _ ‹_›).2 | trivial | rfl | contradiction | (simp_all; done) | (trace_state; fail)
def C_Rk_3 : FuncId → Option Ct := addC 12 ct_lawStacked C_Rk_2
theorem C_Rk_3_ok : COk Try.prog C_Rk_3 := addC_ok C_Rk_2_ok sat_lawStacked

def C_Rk : FuncId → Option Ct := C_Rk_3
theorem C_Rk_ok : COk Try.prog C_Rk := C_Rk_3_ok
end Go.Proofs.Ytjgjcggecikdpaa
