/- Contracts: positions of beats, beats of positions; the laws. Conditions: as each says. -/
import Derived.Test.YtkeckmdmmbeaiaaGreatDoorGb
set_option linter.unusedSimpArgs false
set_option linter.unusedVariables false
namespace Go.Proofs.YtkeckmdmmbeaiaaGreatDoor
open Go.RowKit Sx
set_option maxRecDepth 100000
set_option maxHeartbeats 1000000
def posF (ts : List tTempo.den) (b : Fr) : Fr × Int := if askF ts b = 0 then (if (posGo ts b ts.length 0 (0, 1)).2 = 0 then posGo ts b ts.length 0 (0, 1) else ((0, 0), 2)) else ((0, 0), askF ts b)
/-- What a position says of the last tempo and the beat: both programs' words. -/
theorem pos_both {ts : List tTempo.den} {b : Fr} (h : askF ts b = 0) : (posGo ts b ts.length 0 (0, 1) = onF (tAt ts (idxF ts b)).1 b (tAt ts (idxF ts b)).2 (atF (psGo ts ts.length 0).1 (idxF ts b))) ∧
    (((posGo ts b ts.length 0 (0, 1)).2 = 0 ∧ okF (posGo ts b ts.length 0 (0, 1)).1.1 (posGo ts b ts.length 0 (0, 1)).1.2 = true) ∨ (posGo ts b ts.length 0 (0, 1)).2 = 2) := by
  obtain ⟨g1, g2, g3⟩ := askF_zero h
  obtain ⟨k1, k2, k3⟩ := tmap_beats g1
  have k4 := tmap_idx g1 g2 g3
  obtain ⟨m1, m2⟩ := tmap_list g1
  have e := pos_beat g1 (okF_bd g2).1.1 g3
  refine ⟨e, ?_⟩
  rw [e]
  obtain ⟨_, _, h3, _, _⟩ := tmap_spec g1
  have g := goodT_ok (h3 _ k4).1
  have h2 := m2 _ k4
  refine onF_ok g.1 g2 ?_ g.2.2
  have : (psGo ts ts.length 0).1.getD (idxF ts b) (0, 0) = atF (psGo ts ts.length 0).1 (idxF ts b) := rfl
  rw [this, h2.1]
  exact h2.2
def ct_iPositionOfBeat : Ct := ctOf [.s qTempo, .s tFrac] (fun ((ts : List tTempo.den), ((u : Int), (v : Int)), _) => .p ((ts.length : Int) ≤ 9223372036854775807)) (fun ((ts : List tTempo.den), ((u : Int), (v : Int)), _) => .tup [.agg (enc tFrac (posF ts (u, v)).1), .int .i64 (posF ts (u, v)).2])
set_option maxHeartbeats 1000000 in
theorem sat_iPositionOfBeat : Sat Tryz.prog 14 ct_iPositionOfBeat := by
  refine sat_typed (C := C_Gb) (L := noL) (wr := false) mixedOk Tryz.func14 C_Gb_ok (loops0 (by kernel_rfl)) (fun _ => by first | rfl | (simp [ownsOf, ownsOf.ownsL, enc, encV, encS])) fun x hp => ?_
  obtain ⟨(ts : List tTempo.den), ⟨(u : Int), (v : Int)⟩, _⟩ := x
  replace hp : (ts.length : Int) ≤ 9223372036854775807 := hp
  have htree : exFunc Tryz.prog C_Gb false noL Tryz.f14 (encA [.s qTempo, .s tFrac] (ts, (u, v), ())) = .need ((↑[ts].length : Int) ≤ (9223372036854775807 : Int) ∧ ∀ (ts_1 : List tTempo.den), ts_1 ∈ [ts] → (↑ts_1.length : Int) ≤ (9223372036854775807 : Int)) (.ite (bcF [ts] (u, v) != (0 : Int)) (.leaf [.agg [.int .i64 ((0 : Int)), .int .i64 ((0 : Int))], .int .i64 (bcF [ts] (u, v))]) (.need ((∀ (i : Nat), i < ts.length → okF (tAt ts i).fst.fst (tAt ts i).fst.snd = true) ∧ okF u v = true ∧ ts.length ≤ (8 : Nat)) (.ite ((posGo ts (u, v) ts.length (0 : Nat) ((0 : Int), (1 : Int))).snd != (0 : Int)) (.leaf [.agg [.int .i64 ((0 : Int)), .int .i64 ((0 : Int))], .int .i64 ((posGo ts (u, v) ts.length (0 : Nat) ((0 : Int), (1 : Int))).snd)]) (.leaf [.agg [.int .i64 ((posGo ts (u, v) ts.length (0 : Nat) ((0 : Int), (1 : Int))).fst.fst), .int .i64 ((posGo ts (u, v) ts.length (0 : Nat) ((0 : Int), (1 : Int))).fst.snd)], .int .i64 ((0 : Int))])))) := by kernel_rfl
  refine (congrArg (Tree.ok _) htree).mpr ?_
  clear htree
  have hm : ∀ x ∈ ([ts] : List (List tTempo.den)), (x.length : Int) ≤ 9223372036854775807 := fun x hx => by rw [List.mem_singleton] at hx; rw [hx]; exact hp
  simp only [Tree.ok, tyd_inj, packAV, AV.same, AV.same.sameL, encV, encS, enc, inK, Nd.ok, List.headD_cons, List.cons_append, List.nil_append, List.append_nil, true_and, and_true, Bool.true_and, Bool.and_true, posF, bne_iff_ne, ne_eq, bne_eq_false_iff_eq, List.length_singleton]
  rw [bcF_one]
  by_cases h : askF ts (u, v) = 0
  · obtain ⟨g1, g2, g3⟩ := askF_zero h
    obtain ⟨k1, k2, k3⟩ := tmap_beats g1
    obtain ⟨_, h2⟩ := pos_both h
    simp only [if_pos h]
    by_cases k : (posGo ts (u, v) ts.length 0 (0, 1)).2 = 0
    · simp only [if_pos k]
      repeat' first | apply And.intro | intro _
      all_goals first | omega | exact g2 | exact k3 _ ‹_› | exact hm _ ‹_› | assumption | trivial | rfl | contradiction
    · simp only [if_neg k]
      repeat' first | apply And.intro | intro _
      all_goals first | omega | exact g2 | exact k3 _ ‹_› | exact hm _ ‹_› | assumption | trivial | rfl | contradiction
  · simp only [if_neg h]
    repeat' first | apply And.intro | intro _
    all_goals first | omega | exact hm _ ‹_› | assumption | trivial | rfl | contradiction
def C_Gc_1 : FuncId → Option Ct := addC 14 ct_iPositionOfBeat C_Gb
theorem C_Gc_1_ok : COk Tryz.prog C_Gc_1 := addC_ok C_Gb_ok sat_iPositionOfBeat
theorem etaF (x : Fr) : (x.1, x.2) = x := rfl
theorem okF_00 : okF 0 0 = false := rfl
theorem posF_ok (ts : List tTempo.den) (b : Fr) : ((posF ts b).2 = 0 ∧ okF (posF ts b).1.1 (posF ts b).1.2 = true) ∨ ((posF ts b).2 ≠ 0 ∧ (posF ts b).1 = (0, 0)) := by
  unfold posF
  split
  · rename_i h
    obtain ⟨_, h2⟩ := pos_both h
    split
    · rename_i k
      exact .inl ⟨k, (h2.resolve_right (by omega)).2⟩
    · exact .inr ⟨by simp, rfl⟩
  · rename_i h
    exact .inr ⟨h, rfl⟩
def ct_iSampleOfBeat : Ct := ctOf [.s qTempo, .s tFrac] (fun ((ts : List tTempo.den), ((u : Int), (v : Int)), _) => .p ((ts.length : Int) ≤ 9223372036854775807)) (fun ((ts : List tTempo.den), ((u : Int), (v : Int)), _) => .tup [.int .i64 (if (posF ts (u, v)).2 = 0 then (posF ts (u, v)).1.1 / (posF ts (u, v)).1.2 else 0), .int .i64 (posF ts (u, v)).2])
set_option maxHeartbeats 1000000 in
theorem sat_iSampleOfBeat : Sat Tryz.prog 16 ct_iSampleOfBeat := by
  refine sat_typed (C := C_Gc_1) (L := noL) (wr := false) mixedOk Tryz.func16 C_Gc_1_ok (loops0 (by kernel_rfl)) (fun _ => by first | rfl | (simp [ownsOf, ownsOf.ownsL, enc, encV, encS])) fun x hp => ?_
  obtain ⟨(ts : List tTempo.den), ⟨(u : Int), (v : Int)⟩, _⟩ := x
  replace hp : (ts.length : Int) ≤ 9223372036854775807 := hp
  have htree : exFunc Tryz.prog C_Gc_1 false noL Tryz.f16 (encA [.s qTempo, .s tFrac] (ts, (u, v), ())) = .need ((↑ts.length : Int) ≤ (9223372036854775807 : Int)) (.leaf [.int .i64 (if okF (posF ts (u, v)).fst.fst (posF ts (u, v)).fst.snd = true then (posF ts (u, v)).fst.fst / (posF ts (u, v)).fst.snd else (0 : Int)), .int .i64 ((posF ts (u, v)).snd)]) := by kernel_rfl
  refine (congrArg (Tree.ok _) htree).mpr ?_
  clear htree
  have h := posF_ok ts (u, v)
  simp only [Tree.ok, tyd_inj, packAV, AV.same, AV.same.sameL, encV, encS, enc, inK, Nd.ok, List.headD_cons, List.cons_append, List.nil_append, List.append_nil, true_and, and_true, Bool.true_and, Bool.and_true]
  rcases h with ⟨h1, h2⟩ | ⟨h1, h2⟩
  · simp only [h1, h2, if_true]
    repeat' first | apply And.intro | intro _
    all_goals first | omega | trivial | rfl
  · simp only [h2, if_neg h1, okF_00]
    repeat' first | apply And.intro | intro _
    all_goals first | omega | trivial | rfl
def C_Gc_2 : FuncId → Option Ct := addC 16 ct_iSampleOfBeat C_Gc_1
theorem C_Gc_2_ok : COk Tryz.prog C_Gc_2 := addC_ok C_Gc_1_ok sat_iSampleOfBeat
theorem divF_ok {a b c d : Int} (h1 : okF a b = true) (h2 : okF c d = true) : ((divF a b c d).2 = 0 ∧ okF (divF a b c d).1.1 (divF a b c d).1.2 = true) ∨ (divF a b c d).2 = 2 := by
  have g1 := okF_bd h1
  unfold divF
  rw [if_pos ⟨h1, h2⟩]
  split
  · exact .inr rfl
  · rename_i hc
    have hne : b * c ≠ 0 := Int.mul_ne_zero (by omega) hc
    rcases mkF_code (a * d) (b * c) hne with h | h
    · exact .inl ⟨h, mkF_ok hne h⟩
    · exact .inr h.1
def lstGo (key : Nat → Fr) (b : Fr) : Nat → Nat → Nat → Nat
  | 0, _, k => k
  | n + 1, i, k => lstGo key b n (i + 1) (if cmpB (key i) b ≤ 0 then i else k)
theorem lstGo_go (key : Nat → Fr) (b : Fr) (n i k : Nat) (h : i < n) : lstGo key b (n - i) i k = lstGo key b (n - (i + 1)) (i + 1) (if cmpB (key i) b ≤ 0 then i else k) := by
  rw [show n - i = (n - (i + 1)) + 1 by omega]; rfl
theorem lstGo_lt (key : Nat → Fr) (b : Fr) (N : Nat) : ∀ n i k : Nat, i + n = N → k < N → lstGo key b n i k < N
  | 0, _, _, _, h => h
  | n + 1, i, k, h, hk => by
    unfold lstGo
    refine lstGo_lt key b N n (i + 1) _ (by omega) ?_
    split <;> omega
theorem lstGo_congr {key key' : Nat → Fr} (b : Fr) (N : Nat) (h : ∀ i, i < N → key i = key' i) : ∀ n i k : Nat, i + n = N → lstGo key b n i k = lstGo key' b n i k
  | 0, _, _, _ => rfl
  | n + 1, i, k, hi => by
    unfold lstGo
    rw [h i (by omega)]
    exact lstGo_congr b N h n (i + 1) _ (by omega)
def bGo (ts : List tTempo.den) (b : Fr) : Nat → Nat → ((Int × Int) × Int) × Fr → ((Int × Int) × Int) × Fr
  | 0, _, s => s
  | n + 1, i, s => bGo ts b n (i + 1) (if cmpB (chn ts i).1 b ≤ 0 then (tAt ts i, (chn ts i).1) else s)
theorem bGo_go (ts : List tTempo.den) (b : Fr) (i : Nat) (s : ((Int × Int) × Int) × Fr) (h : i < ts.length) : bGo ts b (ts.length - i) i s = bGo ts b (ts.length - (i + 1)) (i + 1) (if cmpB (chn ts i).1 b ≤ 0 then (tAt ts i, (chn ts i).1) else s) := by
  rw [show ts.length - i = (ts.length - (i + 1)) + 1 by omega]; rfl
theorem bGo_idx (ts : List tTempo.den) (b : Fr) : ∀ n i k : Nat, bGo ts b n i (tAt ts k, (chn ts k).1) = (tAt ts (lstGo (fun j => (chn ts j).1) b n i k), (chn ts (lstGo (fun j => (chn ts j).1) b n i k)).1)
  | 0, _, _ => rfl
  | n + 1, i, k => by
    unfold bGo lstGo
    rw [← bGo_idx ts b n (i + 1) _]
    congr 1
    split <;> rfl
def lstF (ts : List tTempo.den) (b : Fr) : Nat := lstGo (fun j => (chn ts j).1) b ts.length 0 0
theorem bGo_all {ts : List tTempo.den} {b : Fr} (h : 1 ≤ ts.length) (hb : 0 ≤ b.1) (s : ((Int × Int) × Int) × Fr) : bGo ts b ts.length 0 s = (tAt ts (lstF ts b), (chn ts (lstF ts b)).1) := by
  have hle : cmpB (chn ts 0).1 b ≤ 0 := by
    rw [cmpB_le]
    show 0 * b.2 ≤ b.1 * 1
    omega
  have e := bGo_go ts b 0 s (by omega)
  have e2 := lstGo_go (fun j => (chn ts j).1) b ts.length 0 0 (by omega)
  rw [Nat.sub_zero, if_pos hle] at e e2
  unfold lstF
  rw [e, e2]
  exact bGo_idx ts b _ 1 0
def backF (T : (Int × Int) × Int) (c p : Fr) : Fr × Int :=
  if (subF p.1 p.2 c.1 c.2).2 = 0 then
    if (divF (subF p.1 p.2 c.1 c.2).1.1 (subF p.1 p.2 c.1 c.2).1.2 T.2 1).2 = 0 then
      if (addF T.1.1 T.1.2 (divF (subF p.1 p.2 c.1 c.2).1.1 (subF p.1 p.2 c.1 c.2).1.2 T.2 1).1.1 (divF (subF p.1 p.2 c.1 c.2).1.1 (subF p.1 p.2 c.1 c.2).1.2 T.2 1).1.2).2 = 0 ∧ beatF (addF T.1.1 T.1.2 (divF (subF p.1 p.2 c.1 c.2).1.1 (subF p.1 p.2 c.1 c.2).1.2 T.2 1).1.1 (divF (subF p.1 p.2 c.1 c.2).1.1 (subF p.1 p.2 c.1 c.2).1.2 T.2 1).1.2).1.1 (addF T.1.1 T.1.2 (divF (subF p.1 p.2 c.1 c.2).1.1 (subF p.1 p.2 c.1 c.2).1.2 T.2 1).1.1 (divF (subF p.1 p.2 c.1 c.2).1.1 (subF p.1 p.2 c.1 c.2).1.2 T.2 1).1.2).1.2 = true
      then ((addF T.1.1 T.1.2 (divF (subF p.1 p.2 c.1 c.2).1.1 (subF p.1 p.2 c.1 c.2).1.2 T.2 1).1.1 (divF (subF p.1 p.2 c.1 c.2).1.1 (subF p.1 p.2 c.1 c.2).1.2 T.2 1).1.2).1, 0) else ((0, 0), 2)
    else ((0, 0), 2)
  else ((0, 0), 2)
def bopF (ts : List tTempo.den) (p : Fr) : Fr × Int := if tmapF ts = true ∧ okF p.1 p.2 = true then (if p.1 < 0 then ((0, 0), 2) else backF (tAt ts (lstF ts p)) (chn ts (lstF ts p)).1 p) else ((0, 0), 1)
theorem tmap_chn {ts : List tTempo.den} (h : tmapF ts = true) (k : Nat) (hk : k < ts.length) : posGo ts (tAt ts k).1 ts.length 0 (0, 1) = ((chn ts k).1, 0) := by
  obtain ⟨h1, h2, h3, h4, h5⟩ := tmap_spec h
  rw [pos_tempo h3 k hk, if_pos (h4 k hk)]
def ann_iBeatOfPosition_0 : LAnn := { sameS := [2, 3, 4, 6, 7, 30, 31], modS := [32], sameH := [2, 3, 4], modH := [6, 7], base := 900000, nilE := [], nilB := [], G := fun
  | ⟨[.ptr 2 0, .ptr 3 0, .ptr 4 0, .ptr 6 0, .ptr 7 0, .view (.pair (.pair (.int .i64) (.int .i64)) (.int .i64)) ts, .int .i64 n], [.box [.view (.pair (.pair (.int .i64) (.int .i64)) (.int .i64)) xs], .box [.int .i64 u, .int .i64 v], .box [.int .i64 z1, .int .i64 z2]], [.int .i64 i], [[.int .i64 a, .int .i64 b, .int .i64 c], [.int .i64 d, .int .i64 e]]⟩ => some (.p ((0 ≤ i ∧ i ≤ n) ∧ n = (ts.length : Int) ∧ xs = ts ∧ okF u v = true ∧ tmapF ts = true), .leaf (.exit 0) [.unk] [[.int .i64 (bGo ts (u, v) (ts.length - i.toNat) i.toNat (((a, b), c), (d, e))).1.1.1, .int .i64 (bGo ts (u, v) (ts.length - i.toNat) i.toNat (((a, b), c), (d, e))).1.1.2, .int .i64 (bGo ts (u, v) (ts.length - i.toNat) i.toNat (((a, b), c), (d, e))).1.2], [.int .i64 (bGo ts (u, v) (ts.length - i.toNat) i.toNat (((a, b), c), (d, e))).2.1, .int .i64 (bGo ts (u, v) (ts.length - i.toNat) i.toNat (((a, b), c), (d, e))).2.2]])
  | _ => none }
def ct_iBeatOfPosition : Ct := ctOf [.s qTempo, .s tFrac] (fun ((ts : List tTempo.den), ((u : Int), (v : Int)), _) => .p ((ts.length : Int) ≤ 9223372036854775807)) (fun ((ts : List tTempo.den), ((u : Int), (v : Int)), _) => .tup [.agg (enc tFrac (bopF ts (u, v)).1), .int .i64 (bopF ts (u, v)).2])
set_option maxHeartbeats 1000000 in
theorem loop_iBeatOfPosition_0 : LoopSat Tryz.prog Tryz.f15.ntmps (loopAt Tryz.f15 0) ann_iBeatOfPosition_0 := by
  refine loopSat_of (C := C_Gc_2) (L := (addL (firstId (loopAt Tryz.f15 0)) ann_iBeatOfPosition_0 noL)) (wr := false) mixedOk C_Gc_2_ok (loopsIn0 (by kernel_rfl)) (fun d => match d.same, d.vals with | [_, _, _, _, _, _, .int _ n], [.int _ i] => (n - i).toNat | _, _ => 0) fun d p t hG hp => ?_
  simp only [ann_iBeatOfPosition_0] at hG
  split at hG
  rotate_left
  · simp at hG
  rename_i ts n xs u v z1 z2 i a b c d e
  simp only [Option.some.injEq, Prod.mk.injEq] at hG
  obtain ⟨rfl, rfl⟩ := hG
  have htree : exRound Tryz.prog C_Gc_2 false (addL (firstId (loopAt Tryz.f15 0)) ann_iBeatOfPosition_0 noL) Tryz.f15.ntmps ann_iBeatOfPosition_0 (loopAt Tryz.f15 0) ⟨[.ptr 2 0, .ptr 3 0, .ptr 4 0, .ptr 6 0, .ptr 7 0, .view tTempo ts, .int .i64 n], [.box [.view tTempo xs], .box [.int .i64 u, .int .i64 v], .box [.int .i64 z1, .int .i64 z2]], [.int .i64 i], [[.int .i64 a, .int .i64 b, .int .i64 c], [.int .i64 d, .int .i64 e]]⟩ = .ite (decide (i < n)) (.need ((0 : Int) ≤ i ∧ i < (↑ts.length : Int)) (.need ((∀ (i : Nat), i < xs.length → okF (tAt xs i).fst.fst (tAt xs i).fst.snd = true) ∧ okF (getT tTempo ts i).fst.fst (getT tTempo ts i).fst.snd = true ∧ xs.length ≤ (8 : Nat)) (.need ((((1 : Int) ≤ (posGo xs ((getT tTempo ts i).fst.fst, (getT tTempo ts i).fst.snd) xs.length (0 : Nat) ((0 : Int), (1 : Int))).fst.snd ∧ (posGo xs ((getT tTempo ts i).fst.fst, (getT tTempo ts i).fst.snd) xs.length (0 : Nat) ((0 : Int), (1 : Int))).fst.snd ≤ (1000000 : Int)) ∧ (-1000000000 : Int) ≤ (posGo xs ((getT tTempo ts i).fst.fst, (getT tTempo ts i).fst.snd) xs.length (0 : Nat) ((0 : Int), (1 : Int))).fst.fst ∧ (posGo xs ((getT tTempo ts i).fst.fst, (getT tTempo ts i).fst.snd) xs.length (0 : Nat) ((0 : Int), (1 : Int))).fst.fst ≤ (1000000000 : Int)) ∧ ((1 : Int) ≤ v ∧ v ≤ (1000000 : Int)) ∧ (-1000000000 : Int) ≤ u ∧ u ≤ (1000000000 : Int)) (.ite (decide (cmpF (posGo xs ((getT tTempo ts i).fst.fst, (getT tTempo ts i).fst.snd) xs.length (0 : Nat) ((0 : Int), (1 : Int))).fst.fst (posGo xs ((getT tTempo ts i).fst.fst, (getT tTempo ts i).fst.snd) xs.length (0 : Nat) ((0 : Int), (1 : Int))).fst.snd u v ≤ (0 : Int))) (.need (inK IntKind.i64 (i + (1 : Int))) (.leaf (.normal, ⟨[.ptr 2 0, .ptr 3 0, .ptr 4 0, .ptr 6 0, .ptr 7 0, .view (tFrac.pair I64) (ts), .int .i64 (n)], [.box [.view (tFrac.pair I64) (xs)], .box [.int .i64 (u), .int .i64 (v)], .box [.int .i64 (z1), .int .i64 (z2)]], [.int .i64 (i + (1 : Int))], [[.int .i64 ((getT tTempo ts i).fst.fst), .int .i64 ((getT tTempo ts i).fst.snd), .int .i64 ((getT tTempo ts i).snd)], [.int .i64 ((posGo xs ((getT tTempo ts i).fst.fst, (getT tTempo ts i).fst.snd) xs.length (0 : Nat) ((0 : Int), (1 : Int))).fst.fst), .int .i64 ((posGo xs ((getT tTempo ts i).fst.fst, (getT tTempo ts i).fst.snd) xs.length (0 : Nat) ((0 : Int), (1 : Int))).fst.snd)]]⟩))) (.need (inK IntKind.i64 (i + (1 : Int))) (.leaf (.normal, ⟨[.ptr 2 0, .ptr 3 0, .ptr 4 0, .ptr 6 0, .ptr 7 0, .view (tFrac.pair I64) (ts), .int .i64 (n)], [.box [.view (tFrac.pair I64) (xs)], .box [.int .i64 (u), .int .i64 (v)], .box [.int .i64 (z1), .int .i64 (z2)]], [.int .i64 (i + (1 : Int))], [[.int .i64 (a), .int .i64 (b), .int .i64 (c)], [.int .i64 (d), .int .i64 (e)]]⟩))))))) (.leaf ((.exit 0), ⟨[.ptr 2 0, .ptr 3 0, .ptr 4 0, .ptr 6 0, .ptr 7 0, .view (tFrac.pair I64) (ts), .int .i64 (n)], [.box [.view (tFrac.pair I64) (xs)], .box [.int .i64 (u), .int .i64 (v)], .box [.int .i64 (z1), .int .i64 (z2)]], [.int .i64 (i)], [[.int .i64 (a), .int .i64 (b), .int .i64 (c)], [.int .i64 (d), .int .i64 (e)]]⟩)) := by kernel_rfl
  rw [htree]
  clear htree
  replace hp : (0 ≤ i ∧ i ≤ n) ∧ n = (ts.length : Int) ∧ xs = ts ∧ okF u v = true ∧ tmapF ts = true := hp
  have hz : ∀ (k : Int), getT tTempo ts k = tAt ts k.toNat := fun _ => rfl
  obtain ⟨hi, hn, rfl, hb, ht⟩ := hp
  have eta2 : ∀ x : (Int × Int) × Int, (x.1.1, x.1.2) = x.1 := fun _ => rfl
  simp only [Tree.ok, tyd_inj, packAV, AV.same, AV.same.sameL, encV, encS, enc, inK, Nd.ok, List.headD_cons, List.cons_append, List.nil_append, List.append_nil, true_and, and_true, Bool.true_and, Bool.and_true, loop_next, weakBs_nil, weakBs_cons, weakB_self, weakB_row, weakB_int, weakL_nil, weakL_unk, weakL_guess, isRow_own, isRow_unk, weakL_int, weakL_bool, weakL_str, weakL_own, weakL_view, weakL_nilS, noRow_int, noRow_bool, own_inj, LTree.val, cond_true, cond_false, Prod.mk.injEq, List.cons.injEq, AV.int.injEq, AV.bool.injEq, AV.str.injEq, AV.agg.injEq, ann_iBeatOfPosition_0, decide_eq_true_eq, decide_eq_false_iff_not, hz, eta2]
  refine ⟨fun ha => ?_, fun ha => ?_⟩
  · have h1 := bGo_go xs (u, v) i.toNat (((a, b), c), (d, e)) (by omega)
    have h2 := tmap_chn ht i.toNat (by omega)
    obtain ⟨k1, k2, k3⟩ := tmap_beats ht
    have g0 := okF_bd ((tmap_list ht).2 i.toNat (by omega)).2
    have g2 := okF_bd hb
    have g3 := k3 i.toNat (by omega)
    rw [show (i + 1).toNat = i.toNat + 1 by omega, h1, h2]
    have hcb : cmpF (chn xs i.toNat).1.1 (chn xs i.toNat).1.2 u v = cmpB (chn xs i.toNat).1 (u, v) := rfl
    simp only [hcb]
    by_cases hc : cmpB (chn xs i.toNat).1 (u, v) ≤ 0
    · rw [if_pos hc]
      repeat' first | apply And.intro | intro _
      all_goals first | omega | exact k3 _ ‹_› | exact g3 | assumption | trivial | rfl | contradiction
    · rw [if_neg hc]
      repeat' first | apply And.intro | intro _
      all_goals first | omega | exact k3 _ ‹_› | exact g3 | assumption | trivial | rfl | contradiction
  · rw [show xs.length - i.toNat = 0 by omega]
    simp [Tree.ok, tyd_inj, packAV, AV.same, AV.same.sameL, encV, encS, enc, inK, Nd.ok, List.headD_cons, List.cons_append, List.nil_append, List.append_nil, true_and, and_true, Bool.true_and, Bool.and_true, loop_next, weakBs_nil, weakBs_cons, weakB_self, weakB_row, weakB_int, weakL_nil, weakL_unk, weakL_guess, isRow_own, isRow_unk, weakL_int, weakL_bool, weakL_str, weakL_own, weakL_view, weakL_nilS, noRow_int, noRow_bool, own_inj, LTree.val, cond_true, cond_false, Prod.mk.injEq, List.cons.injEq, AV.int.injEq, AV.bool.injEq, AV.str.injEq, AV.agg.injEq, bGo]
theorem loops_iBeatOfPosition : ∀ c, Tryz.f15.body = some c → LoopsOk Tryz.prog (addL (firstId (loopAt Tryz.f15 0)) ann_iBeatOfPosition_0 noL) Tryz.f15.ntmps c := loopsN fun i hi ann h => by
  have hn : loopN Tryz.f15 = 1 := by kernel_rfl
  rw [hn] at hi
  exact match i, hi, h with
    | 0, _, h => (Option.some.inj ((show (addL (firstId (loopAt Tryz.f15 0)) ann_iBeatOfPosition_0 noL) (firstId (loopAt Tryz.f15 0)) = some ann_iBeatOfPosition_0 from by kernel_rfl).symm.trans h)) ▸ loop_iBeatOfPosition_0
set_option maxHeartbeats 1000000 in
theorem sat_iBeatOfPosition : Sat Tryz.prog 15 ct_iBeatOfPosition := by
  refine sat_typed (C := C_Gc_2) (L := (addL (firstId (loopAt Tryz.f15 0)) ann_iBeatOfPosition_0 noL)) (wr := false) mixedOk Tryz.func15 C_Gc_2_ok (loops_iBeatOfPosition) (fun _ => by first | rfl | (simp [ownsOf, ownsOf.ownsL, enc, encV, encS])) fun x hp => ?_
  obtain ⟨(ts : List tTempo.den), ⟨(u : Int), (v : Int)⟩, _⟩ := x
  replace hp : (ts.length : Int) ≤ 9223372036854775807 := hp
  have htree : exFunc Tryz.prog C_Gc_2 false (addL (firstId (loopAt Tryz.f15 0)) ann_iBeatOfPosition_0 noL) Tryz.f15 (encA [.s qTempo, .s tFrac] (ts, (u, v), ())) = .need ((↑ts.length : Int) ≤ (9223372036854775807 : Int)) (.ite (!tmapF ts) (.leaf [.agg [.int .i64 ((0 : Int)), .int .i64 ((0 : Int))], .int .i64 ((1 : Int))]) (.ite (!okF u v) (.leaf [.agg [.int .i64 ((0 : Int)), .int .i64 ((0 : Int))], .int .i64 ((1 : Int))]) (.ite (decide (u < (0 : Int))) (.leaf [.agg [.int .i64 ((0 : Int)), .int .i64 ((0 : Int))], .int .i64 ((2 : Int))]) (.need (((0 : Int) ≤ (0 : Int) ∧ (0 : Int) ≤ (↑ts.length : Int)) ∧ (↑ts.length : Int) = (↑ts.length : Int) ∧ ts = ts ∧ okF u v = true ∧ tmapF ts = true) (.ite ((subF u v (bGo ts (u, v) (ts.length - Int.toNat (0 : Int)) (Int.toNat (0 : Int)) ((((0 : Int), (0 : Int)), (0 : Int)), (0 : Int), (0 : Int))).snd.fst (bGo ts (u, v) (ts.length - Int.toNat (0 : Int)) (Int.toNat (0 : Int)) ((((0 : Int), (0 : Int)), (0 : Int)), (0 : Int), (0 : Int))).snd.snd).snd == (0 : Int)) (.ite ((divF (subF u v (bGo ts (u, v) (ts.length - Int.toNat (0 : Int)) (Int.toNat (0 : Int)) ((((0 : Int), (0 : Int)), (0 : Int)), (0 : Int), (0 : Int))).snd.fst (bGo ts (u, v) (ts.length - Int.toNat (0 : Int)) (Int.toNat (0 : Int)) ((((0 : Int), (0 : Int)), (0 : Int)), (0 : Int), (0 : Int))).snd.snd).fst.fst (subF u v (bGo ts (u, v) (ts.length - Int.toNat (0 : Int)) (Int.toNat (0 : Int)) ((((0 : Int), (0 : Int)), (0 : Int)), (0 : Int), (0 : Int))).snd.fst (bGo ts (u, v) (ts.length - Int.toNat (0 : Int)) (Int.toNat (0 : Int)) ((((0 : Int), (0 : Int)), (0 : Int)), (0 : Int), (0 : Int))).snd.snd).fst.snd (bGo ts (u, v) (ts.length - Int.toNat (0 : Int)) (Int.toNat (0 : Int)) ((((0 : Int), (0 : Int)), (0 : Int)), (0 : Int), (0 : Int))).fst.snd (1 : Int)).snd == (0 : Int)) (.ite ((addF (bGo ts (u, v) (ts.length - Int.toNat (0 : Int)) (Int.toNat (0 : Int)) ((((0 : Int), (0 : Int)), (0 : Int)), (0 : Int), (0 : Int))).fst.fst.fst (bGo ts (u, v) (ts.length - Int.toNat (0 : Int)) (Int.toNat (0 : Int)) ((((0 : Int), (0 : Int)), (0 : Int)), (0 : Int), (0 : Int))).fst.fst.snd (divF (subF u v (bGo ts (u, v) (ts.length - Int.toNat (0 : Int)) (Int.toNat (0 : Int)) ((((0 : Int), (0 : Int)), (0 : Int)), (0 : Int), (0 : Int))).snd.fst (bGo ts (u, v) (ts.length - Int.toNat (0 : Int)) (Int.toNat (0 : Int)) ((((0 : Int), (0 : Int)), (0 : Int)), (0 : Int), (0 : Int))).snd.snd).fst.fst (subF u v (bGo ts (u, v) (ts.length - Int.toNat (0 : Int)) (Int.toNat (0 : Int)) ((((0 : Int), (0 : Int)), (0 : Int)), (0 : Int), (0 : Int))).snd.fst (bGo ts (u, v) (ts.length - Int.toNat (0 : Int)) (Int.toNat (0 : Int)) ((((0 : Int), (0 : Int)), (0 : Int)), (0 : Int), (0 : Int))).snd.snd).fst.snd (bGo ts (u, v) (ts.length - Int.toNat (0 : Int)) (Int.toNat (0 : Int)) ((((0 : Int), (0 : Int)), (0 : Int)), (0 : Int), (0 : Int))).fst.snd (1 : Int)).fst.fst (divF (subF u v (bGo ts (u, v) (ts.length - Int.toNat (0 : Int)) (Int.toNat (0 : Int)) ((((0 : Int), (0 : Int)), (0 : Int)), (0 : Int), (0 : Int))).snd.fst (bGo ts (u, v) (ts.length - Int.toNat (0 : Int)) (Int.toNat (0 : Int)) ((((0 : Int), (0 : Int)), (0 : Int)), (0 : Int), (0 : Int))).snd.snd).fst.fst (subF u v (bGo ts (u, v) (ts.length - Int.toNat (0 : Int)) (Int.toNat (0 : Int)) ((((0 : Int), (0 : Int)), (0 : Int)), (0 : Int), (0 : Int))).snd.fst (bGo ts (u, v) (ts.length - Int.toNat (0 : Int)) (Int.toNat (0 : Int)) ((((0 : Int), (0 : Int)), (0 : Int)), (0 : Int), (0 : Int))).snd.snd).fst.snd (bGo ts (u, v) (ts.length - Int.toNat (0 : Int)) (Int.toNat (0 : Int)) ((((0 : Int), (0 : Int)), (0 : Int)), (0 : Int), (0 : Int))).fst.snd (1 : Int)).fst.snd).snd != (0 : Int)) (.leaf [.agg [.int .i64 ((0 : Int)), .int .i64 ((0 : Int))], .int .i64 ((2 : Int))]) (.ite (!beatF (addF (bGo ts (u, v) (ts.length - Int.toNat (0 : Int)) (Int.toNat (0 : Int)) ((((0 : Int), (0 : Int)), (0 : Int)), (0 : Int), (0 : Int))).fst.fst.fst (bGo ts (u, v) (ts.length - Int.toNat (0 : Int)) (Int.toNat (0 : Int)) ((((0 : Int), (0 : Int)), (0 : Int)), (0 : Int), (0 : Int))).fst.fst.snd (divF (subF u v (bGo ts (u, v) (ts.length - Int.toNat (0 : Int)) (Int.toNat (0 : Int)) ((((0 : Int), (0 : Int)), (0 : Int)), (0 : Int), (0 : Int))).snd.fst (bGo ts (u, v) (ts.length - Int.toNat (0 : Int)) (Int.toNat (0 : Int)) ((((0 : Int), (0 : Int)), (0 : Int)), (0 : Int), (0 : Int))).snd.snd).fst.fst (subF u v (bGo ts (u, v) (ts.length - Int.toNat (0 : Int)) (Int.toNat (0 : Int)) ((((0 : Int), (0 : Int)), (0 : Int)), (0 : Int), (0 : Int))).snd.fst (bGo ts (u, v) (ts.length - Int.toNat (0 : Int)) (Int.toNat (0 : Int)) ((((0 : Int), (0 : Int)), (0 : Int)), (0 : Int), (0 : Int))).snd.snd).fst.snd (bGo ts (u, v) (ts.length - Int.toNat (0 : Int)) (Int.toNat (0 : Int)) ((((0 : Int), (0 : Int)), (0 : Int)), (0 : Int), (0 : Int))).fst.snd (1 : Int)).fst.fst (divF (subF u v (bGo ts (u, v) (ts.length - Int.toNat (0 : Int)) (Int.toNat (0 : Int)) ((((0 : Int), (0 : Int)), (0 : Int)), (0 : Int), (0 : Int))).snd.fst (bGo ts (u, v) (ts.length - Int.toNat (0 : Int)) (Int.toNat (0 : Int)) ((((0 : Int), (0 : Int)), (0 : Int)), (0 : Int), (0 : Int))).snd.snd).fst.fst (subF u v (bGo ts (u, v) (ts.length - Int.toNat (0 : Int)) (Int.toNat (0 : Int)) ((((0 : Int), (0 : Int)), (0 : Int)), (0 : Int), (0 : Int))).snd.fst (bGo ts (u, v) (ts.length - Int.toNat (0 : Int)) (Int.toNat (0 : Int)) ((((0 : Int), (0 : Int)), (0 : Int)), (0 : Int), (0 : Int))).snd.snd).fst.snd (bGo ts (u, v) (ts.length - Int.toNat (0 : Int)) (Int.toNat (0 : Int)) ((((0 : Int), (0 : Int)), (0 : Int)), (0 : Int), (0 : Int))).fst.snd (1 : Int)).fst.snd).fst.fst (addF (bGo ts (u, v) (ts.length - Int.toNat (0 : Int)) (Int.toNat (0 : Int)) ((((0 : Int), (0 : Int)), (0 : Int)), (0 : Int), (0 : Int))).fst.fst.fst (bGo ts (u, v) (ts.length - Int.toNat (0 : Int)) (Int.toNat (0 : Int)) ((((0 : Int), (0 : Int)), (0 : Int)), (0 : Int), (0 : Int))).fst.fst.snd (divF (subF u v (bGo ts (u, v) (ts.length - Int.toNat (0 : Int)) (Int.toNat (0 : Int)) ((((0 : Int), (0 : Int)), (0 : Int)), (0 : Int), (0 : Int))).snd.fst (bGo ts (u, v) (ts.length - Int.toNat (0 : Int)) (Int.toNat (0 : Int)) ((((0 : Int), (0 : Int)), (0 : Int)), (0 : Int), (0 : Int))).snd.snd).fst.fst (subF u v (bGo ts (u, v) (ts.length - Int.toNat (0 : Int)) (Int.toNat (0 : Int)) ((((0 : Int), (0 : Int)), (0 : Int)), (0 : Int), (0 : Int))).snd.fst (bGo ts (u, v) (ts.length - Int.toNat (0 : Int)) (Int.toNat (0 : Int)) ((((0 : Int), (0 : Int)), (0 : Int)), (0 : Int), (0 : Int))).snd.snd).fst.snd (bGo ts (u, v) (ts.length - Int.toNat (0 : Int)) (Int.toNat (0 : Int)) ((((0 : Int), (0 : Int)), (0 : Int)), (0 : Int), (0 : Int))).fst.snd (1 : Int)).fst.fst (divF (subF u v (bGo ts (u, v) (ts.length - Int.toNat (0 : Int)) (Int.toNat (0 : Int)) ((((0 : Int), (0 : Int)), (0 : Int)), (0 : Int), (0 : Int))).snd.fst (bGo ts (u, v) (ts.length - Int.toNat (0 : Int)) (Int.toNat (0 : Int)) ((((0 : Int), (0 : Int)), (0 : Int)), (0 : Int), (0 : Int))).snd.snd).fst.fst (subF u v (bGo ts (u, v) (ts.length - Int.toNat (0 : Int)) (Int.toNat (0 : Int)) ((((0 : Int), (0 : Int)), (0 : Int)), (0 : Int), (0 : Int))).snd.fst (bGo ts (u, v) (ts.length - Int.toNat (0 : Int)) (Int.toNat (0 : Int)) ((((0 : Int), (0 : Int)), (0 : Int)), (0 : Int), (0 : Int))).snd.snd).fst.snd (bGo ts (u, v) (ts.length - Int.toNat (0 : Int)) (Int.toNat (0 : Int)) ((((0 : Int), (0 : Int)), (0 : Int)), (0 : Int), (0 : Int))).fst.snd (1 : Int)).fst.snd).fst.snd) (.leaf [.agg [.int .i64 ((0 : Int)), .int .i64 ((0 : Int))], .int .i64 ((2 : Int))]) (.leaf [.agg [.int .i64 ((addF (bGo ts (u, v) (ts.length - Int.toNat (0 : Int)) (Int.toNat (0 : Int)) ((((0 : Int), (0 : Int)), (0 : Int)), (0 : Int), (0 : Int))).fst.fst.fst (bGo ts (u, v) (ts.length - Int.toNat (0 : Int)) (Int.toNat (0 : Int)) ((((0 : Int), (0 : Int)), (0 : Int)), (0 : Int), (0 : Int))).fst.fst.snd (divF (subF u v (bGo ts (u, v) (ts.length - Int.toNat (0 : Int)) (Int.toNat (0 : Int)) ((((0 : Int), (0 : Int)), (0 : Int)), (0 : Int), (0 : Int))).snd.fst (bGo ts (u, v) (ts.length - Int.toNat (0 : Int)) (Int.toNat (0 : Int)) ((((0 : Int), (0 : Int)), (0 : Int)), (0 : Int), (0 : Int))).snd.snd).fst.fst (subF u v (bGo ts (u, v) (ts.length - Int.toNat (0 : Int)) (Int.toNat (0 : Int)) ((((0 : Int), (0 : Int)), (0 : Int)), (0 : Int), (0 : Int))).snd.fst (bGo ts (u, v) (ts.length - Int.toNat (0 : Int)) (Int.toNat (0 : Int)) ((((0 : Int), (0 : Int)), (0 : Int)), (0 : Int), (0 : Int))).snd.snd).fst.snd (bGo ts (u, v) (ts.length - Int.toNat (0 : Int)) (Int.toNat (0 : Int)) ((((0 : Int), (0 : Int)), (0 : Int)), (0 : Int), (0 : Int))).fst.snd (1 : Int)).fst.fst (divF (subF u v (bGo ts (u, v) (ts.length - Int.toNat (0 : Int)) (Int.toNat (0 : Int)) ((((0 : Int), (0 : Int)), (0 : Int)), (0 : Int), (0 : Int))).snd.fst (bGo ts (u, v) (ts.length - Int.toNat (0 : Int)) (Int.toNat (0 : Int)) ((((0 : Int), (0 : Int)), (0 : Int)), (0 : Int), (0 : Int))).snd.snd).fst.fst (subF u v (bGo ts (u, v) (ts.length - Int.toNat (0 : Int)) (Int.toNat (0 : Int)) ((((0 : Int), (0 : Int)), (0 : Int)), (0 : Int), (0 : Int))).snd.fst (bGo ts (u, v) (ts.length - Int.toNat (0 : Int)) (Int.toNat (0 : Int)) ((((0 : Int), (0 : Int)), (0 : Int)), (0 : Int), (0 : Int))).snd.snd).fst.snd (bGo ts (u, v) (ts.length - Int.toNat (0 : Int)) (Int.toNat (0 : Int)) ((((0 : Int), (0 : Int)), (0 : Int)), (0 : Int), (0 : Int))).fst.snd (1 : Int)).fst.snd).fst.fst), .int .i64 ((addF (bGo ts (u, v) (ts.length - Int.toNat (0 : Int)) (Int.toNat (0 : Int)) ((((0 : Int), (0 : Int)), (0 : Int)), (0 : Int), (0 : Int))).fst.fst.fst (bGo ts (u, v) (ts.length - Int.toNat (0 : Int)) (Int.toNat (0 : Int)) ((((0 : Int), (0 : Int)), (0 : Int)), (0 : Int), (0 : Int))).fst.fst.snd (divF (subF u v (bGo ts (u, v) (ts.length - Int.toNat (0 : Int)) (Int.toNat (0 : Int)) ((((0 : Int), (0 : Int)), (0 : Int)), (0 : Int), (0 : Int))).snd.fst (bGo ts (u, v) (ts.length - Int.toNat (0 : Int)) (Int.toNat (0 : Int)) ((((0 : Int), (0 : Int)), (0 : Int)), (0 : Int), (0 : Int))).snd.snd).fst.fst (subF u v (bGo ts (u, v) (ts.length - Int.toNat (0 : Int)) (Int.toNat (0 : Int)) ((((0 : Int), (0 : Int)), (0 : Int)), (0 : Int), (0 : Int))).snd.fst (bGo ts (u, v) (ts.length - Int.toNat (0 : Int)) (Int.toNat (0 : Int)) ((((0 : Int), (0 : Int)), (0 : Int)), (0 : Int), (0 : Int))).snd.snd).fst.snd (bGo ts (u, v) (ts.length - Int.toNat (0 : Int)) (Int.toNat (0 : Int)) ((((0 : Int), (0 : Int)), (0 : Int)), (0 : Int), (0 : Int))).fst.snd (1 : Int)).fst.fst (divF (subF u v (bGo ts (u, v) (ts.length - Int.toNat (0 : Int)) (Int.toNat (0 : Int)) ((((0 : Int), (0 : Int)), (0 : Int)), (0 : Int), (0 : Int))).snd.fst (bGo ts (u, v) (ts.length - Int.toNat (0 : Int)) (Int.toNat (0 : Int)) ((((0 : Int), (0 : Int)), (0 : Int)), (0 : Int), (0 : Int))).snd.snd).fst.fst (subF u v (bGo ts (u, v) (ts.length - Int.toNat (0 : Int)) (Int.toNat (0 : Int)) ((((0 : Int), (0 : Int)), (0 : Int)), (0 : Int), (0 : Int))).snd.fst (bGo ts (u, v) (ts.length - Int.toNat (0 : Int)) (Int.toNat (0 : Int)) ((((0 : Int), (0 : Int)), (0 : Int)), (0 : Int), (0 : Int))).snd.snd).fst.snd (bGo ts (u, v) (ts.length - Int.toNat (0 : Int)) (Int.toNat (0 : Int)) ((((0 : Int), (0 : Int)), (0 : Int)), (0 : Int), (0 : Int))).fst.snd (1 : Int)).fst.snd).fst.snd)], .int .i64 ((0 : Int))]))) (.ite ((divF (subF u v (bGo ts (u, v) (ts.length - Int.toNat (0 : Int)) (Int.toNat (0 : Int)) ((((0 : Int), (0 : Int)), (0 : Int)), (0 : Int), (0 : Int))).snd.fst (bGo ts (u, v) (ts.length - Int.toNat (0 : Int)) (Int.toNat (0 : Int)) ((((0 : Int), (0 : Int)), (0 : Int)), (0 : Int), (0 : Int))).snd.snd).fst.fst (subF u v (bGo ts (u, v) (ts.length - Int.toNat (0 : Int)) (Int.toNat (0 : Int)) ((((0 : Int), (0 : Int)), (0 : Int)), (0 : Int), (0 : Int))).snd.fst (bGo ts (u, v) (ts.length - Int.toNat (0 : Int)) (Int.toNat (0 : Int)) ((((0 : Int), (0 : Int)), (0 : Int)), (0 : Int), (0 : Int))).snd.snd).fst.snd (bGo ts (u, v) (ts.length - Int.toNat (0 : Int)) (Int.toNat (0 : Int)) ((((0 : Int), (0 : Int)), (0 : Int)), (0 : Int), (0 : Int))).fst.snd (1 : Int)).snd != (0 : Int)) (.leaf [.agg [.int .i64 ((0 : Int)), .int .i64 ((0 : Int))], .int .i64 ((2 : Int))]) (.ite (!beatF (divF (subF u v (bGo ts (u, v) (ts.length - Int.toNat (0 : Int)) (Int.toNat (0 : Int)) ((((0 : Int), (0 : Int)), (0 : Int)), (0 : Int), (0 : Int))).snd.fst (bGo ts (u, v) (ts.length - Int.toNat (0 : Int)) (Int.toNat (0 : Int)) ((((0 : Int), (0 : Int)), (0 : Int)), (0 : Int), (0 : Int))).snd.snd).fst.fst (subF u v (bGo ts (u, v) (ts.length - Int.toNat (0 : Int)) (Int.toNat (0 : Int)) ((((0 : Int), (0 : Int)), (0 : Int)), (0 : Int), (0 : Int))).snd.fst (bGo ts (u, v) (ts.length - Int.toNat (0 : Int)) (Int.toNat (0 : Int)) ((((0 : Int), (0 : Int)), (0 : Int)), (0 : Int), (0 : Int))).snd.snd).fst.snd (bGo ts (u, v) (ts.length - Int.toNat (0 : Int)) (Int.toNat (0 : Int)) ((((0 : Int), (0 : Int)), (0 : Int)), (0 : Int), (0 : Int))).fst.snd (1 : Int)).fst.fst (divF (subF u v (bGo ts (u, v) (ts.length - Int.toNat (0 : Int)) (Int.toNat (0 : Int)) ((((0 : Int), (0 : Int)), (0 : Int)), (0 : Int), (0 : Int))).snd.fst (bGo ts (u, v) (ts.length - Int.toNat (0 : Int)) (Int.toNat (0 : Int)) ((((0 : Int), (0 : Int)), (0 : Int)), (0 : Int), (0 : Int))).snd.snd).fst.fst (subF u v (bGo ts (u, v) (ts.length - Int.toNat (0 : Int)) (Int.toNat (0 : Int)) ((((0 : Int), (0 : Int)), (0 : Int)), (0 : Int), (0 : Int))).snd.fst (bGo ts (u, v) (ts.length - Int.toNat (0 : Int)) (Int.toNat (0 : Int)) ((((0 : Int), (0 : Int)), (0 : Int)), (0 : Int), (0 : Int))).snd.snd).fst.snd (bGo ts (u, v) (ts.length - Int.toNat (0 : Int)) (Int.toNat (0 : Int)) ((((0 : Int), (0 : Int)), (0 : Int)), (0 : Int), (0 : Int))).fst.snd (1 : Int)).fst.snd) (.leaf [.agg [.int .i64 ((0 : Int)), .int .i64 ((0 : Int))], .int .i64 ((2 : Int))]) (.leaf [.agg [.int .i64 ((divF (subF u v (bGo ts (u, v) (ts.length - Int.toNat (0 : Int)) (Int.toNat (0 : Int)) ((((0 : Int), (0 : Int)), (0 : Int)), (0 : Int), (0 : Int))).snd.fst (bGo ts (u, v) (ts.length - Int.toNat (0 : Int)) (Int.toNat (0 : Int)) ((((0 : Int), (0 : Int)), (0 : Int)), (0 : Int), (0 : Int))).snd.snd).fst.fst (subF u v (bGo ts (u, v) (ts.length - Int.toNat (0 : Int)) (Int.toNat (0 : Int)) ((((0 : Int), (0 : Int)), (0 : Int)), (0 : Int), (0 : Int))).snd.fst (bGo ts (u, v) (ts.length - Int.toNat (0 : Int)) (Int.toNat (0 : Int)) ((((0 : Int), (0 : Int)), (0 : Int)), (0 : Int), (0 : Int))).snd.snd).fst.snd (bGo ts (u, v) (ts.length - Int.toNat (0 : Int)) (Int.toNat (0 : Int)) ((((0 : Int), (0 : Int)), (0 : Int)), (0 : Int), (0 : Int))).fst.snd (1 : Int)).fst.fst), .int .i64 ((divF (subF u v (bGo ts (u, v) (ts.length - Int.toNat (0 : Int)) (Int.toNat (0 : Int)) ((((0 : Int), (0 : Int)), (0 : Int)), (0 : Int), (0 : Int))).snd.fst (bGo ts (u, v) (ts.length - Int.toNat (0 : Int)) (Int.toNat (0 : Int)) ((((0 : Int), (0 : Int)), (0 : Int)), (0 : Int), (0 : Int))).snd.snd).fst.fst (subF u v (bGo ts (u, v) (ts.length - Int.toNat (0 : Int)) (Int.toNat (0 : Int)) ((((0 : Int), (0 : Int)), (0 : Int)), (0 : Int), (0 : Int))).snd.fst (bGo ts (u, v) (ts.length - Int.toNat (0 : Int)) (Int.toNat (0 : Int)) ((((0 : Int), (0 : Int)), (0 : Int)), (0 : Int), (0 : Int))).snd.snd).fst.snd (bGo ts (u, v) (ts.length - Int.toNat (0 : Int)) (Int.toNat (0 : Int)) ((((0 : Int), (0 : Int)), (0 : Int)), (0 : Int), (0 : Int))).fst.snd (1 : Int)).fst.snd)], .int .i64 ((0 : Int))])))) (.ite ((subF u v (bGo ts (u, v) (ts.length - Int.toNat (0 : Int)) (Int.toNat (0 : Int)) ((((0 : Int), (0 : Int)), (0 : Int)), (0 : Int), (0 : Int))).snd.fst (bGo ts (u, v) (ts.length - Int.toNat (0 : Int)) (Int.toNat (0 : Int)) ((((0 : Int), (0 : Int)), (0 : Int)), (0 : Int), (0 : Int))).snd.snd).snd == (0 : Int)) (.ite ((addF (bGo ts (u, v) (ts.length - Int.toNat (0 : Int)) (Int.toNat (0 : Int)) ((((0 : Int), (0 : Int)), (0 : Int)), (0 : Int), (0 : Int))).fst.fst.fst (bGo ts (u, v) (ts.length - Int.toNat (0 : Int)) (Int.toNat (0 : Int)) ((((0 : Int), (0 : Int)), (0 : Int)), (0 : Int), (0 : Int))).fst.fst.snd (subF u v (bGo ts (u, v) (ts.length - Int.toNat (0 : Int)) (Int.toNat (0 : Int)) ((((0 : Int), (0 : Int)), (0 : Int)), (0 : Int), (0 : Int))).snd.fst (bGo ts (u, v) (ts.length - Int.toNat (0 : Int)) (Int.toNat (0 : Int)) ((((0 : Int), (0 : Int)), (0 : Int)), (0 : Int), (0 : Int))).snd.snd).fst.fst (subF u v (bGo ts (u, v) (ts.length - Int.toNat (0 : Int)) (Int.toNat (0 : Int)) ((((0 : Int), (0 : Int)), (0 : Int)), (0 : Int), (0 : Int))).snd.fst (bGo ts (u, v) (ts.length - Int.toNat (0 : Int)) (Int.toNat (0 : Int)) ((((0 : Int), (0 : Int)), (0 : Int)), (0 : Int), (0 : Int))).snd.snd).fst.snd).snd != (0 : Int)) (.leaf [.agg [.int .i64 ((0 : Int)), .int .i64 ((0 : Int))], .int .i64 ((2 : Int))]) (.ite (!beatF (addF (bGo ts (u, v) (ts.length - Int.toNat (0 : Int)) (Int.toNat (0 : Int)) ((((0 : Int), (0 : Int)), (0 : Int)), (0 : Int), (0 : Int))).fst.fst.fst (bGo ts (u, v) (ts.length - Int.toNat (0 : Int)) (Int.toNat (0 : Int)) ((((0 : Int), (0 : Int)), (0 : Int)), (0 : Int), (0 : Int))).fst.fst.snd (subF u v (bGo ts (u, v) (ts.length - Int.toNat (0 : Int)) (Int.toNat (0 : Int)) ((((0 : Int), (0 : Int)), (0 : Int)), (0 : Int), (0 : Int))).snd.fst (bGo ts (u, v) (ts.length - Int.toNat (0 : Int)) (Int.toNat (0 : Int)) ((((0 : Int), (0 : Int)), (0 : Int)), (0 : Int), (0 : Int))).snd.snd).fst.fst (subF u v (bGo ts (u, v) (ts.length - Int.toNat (0 : Int)) (Int.toNat (0 : Int)) ((((0 : Int), (0 : Int)), (0 : Int)), (0 : Int), (0 : Int))).snd.fst (bGo ts (u, v) (ts.length - Int.toNat (0 : Int)) (Int.toNat (0 : Int)) ((((0 : Int), (0 : Int)), (0 : Int)), (0 : Int), (0 : Int))).snd.snd).fst.snd).fst.fst (addF (bGo ts (u, v) (ts.length - Int.toNat (0 : Int)) (Int.toNat (0 : Int)) ((((0 : Int), (0 : Int)), (0 : Int)), (0 : Int), (0 : Int))).fst.fst.fst (bGo ts (u, v) (ts.length - Int.toNat (0 : Int)) (Int.toNat (0 : Int)) ((((0 : Int), (0 : Int)), (0 : Int)), (0 : Int), (0 : Int))).fst.fst.snd (subF u v (bGo ts (u, v) (ts.length - Int.toNat (0 : Int)) (Int.toNat (0 : Int)) ((((0 : Int), (0 : Int)), (0 : Int)), (0 : Int), (0 : Int))).snd.fst (bGo ts (u, v) (ts.length - Int.toNat (0 : Int)) (Int.toNat (0 : Int)) ((((0 : Int), (0 : Int)), (0 : Int)), (0 : Int), (0 : Int))).snd.snd).fst.fst (subF u v (bGo ts (u, v) (ts.length - Int.toNat (0 : Int)) (Int.toNat (0 : Int)) ((((0 : Int), (0 : Int)), (0 : Int)), (0 : Int), (0 : Int))).snd.fst (bGo ts (u, v) (ts.length - Int.toNat (0 : Int)) (Int.toNat (0 : Int)) ((((0 : Int), (0 : Int)), (0 : Int)), (0 : Int), (0 : Int))).snd.snd).fst.snd).fst.snd) (.leaf [.agg [.int .i64 ((0 : Int)), .int .i64 ((0 : Int))], .int .i64 ((2 : Int))]) (.leaf [.agg [.int .i64 ((addF (bGo ts (u, v) (ts.length - Int.toNat (0 : Int)) (Int.toNat (0 : Int)) ((((0 : Int), (0 : Int)), (0 : Int)), (0 : Int), (0 : Int))).fst.fst.fst (bGo ts (u, v) (ts.length - Int.toNat (0 : Int)) (Int.toNat (0 : Int)) ((((0 : Int), (0 : Int)), (0 : Int)), (0 : Int), (0 : Int))).fst.fst.snd (subF u v (bGo ts (u, v) (ts.length - Int.toNat (0 : Int)) (Int.toNat (0 : Int)) ((((0 : Int), (0 : Int)), (0 : Int)), (0 : Int), (0 : Int))).snd.fst (bGo ts (u, v) (ts.length - Int.toNat (0 : Int)) (Int.toNat (0 : Int)) ((((0 : Int), (0 : Int)), (0 : Int)), (0 : Int), (0 : Int))).snd.snd).fst.fst (subF u v (bGo ts (u, v) (ts.length - Int.toNat (0 : Int)) (Int.toNat (0 : Int)) ((((0 : Int), (0 : Int)), (0 : Int)), (0 : Int), (0 : Int))).snd.fst (bGo ts (u, v) (ts.length - Int.toNat (0 : Int)) (Int.toNat (0 : Int)) ((((0 : Int), (0 : Int)), (0 : Int)), (0 : Int), (0 : Int))).snd.snd).fst.snd).fst.fst), .int .i64 ((addF (bGo ts (u, v) (ts.length - Int.toNat (0 : Int)) (Int.toNat (0 : Int)) ((((0 : Int), (0 : Int)), (0 : Int)), (0 : Int), (0 : Int))).fst.fst.fst (bGo ts (u, v) (ts.length - Int.toNat (0 : Int)) (Int.toNat (0 : Int)) ((((0 : Int), (0 : Int)), (0 : Int)), (0 : Int), (0 : Int))).fst.fst.snd (subF u v (bGo ts (u, v) (ts.length - Int.toNat (0 : Int)) (Int.toNat (0 : Int)) ((((0 : Int), (0 : Int)), (0 : Int)), (0 : Int), (0 : Int))).snd.fst (bGo ts (u, v) (ts.length - Int.toNat (0 : Int)) (Int.toNat (0 : Int)) ((((0 : Int), (0 : Int)), (0 : Int)), (0 : Int), (0 : Int))).snd.snd).fst.fst (subF u v (bGo ts (u, v) (ts.length - Int.toNat (0 : Int)) (Int.toNat (0 : Int)) ((((0 : Int), (0 : Int)), (0 : Int)), (0 : Int), (0 : Int))).snd.fst (bGo ts (u, v) (ts.length - Int.toNat (0 : Int)) (Int.toNat (0 : Int)) ((((0 : Int), (0 : Int)), (0 : Int)), (0 : Int), (0 : Int))).snd.snd).fst.snd).fst.snd)], .int .i64 ((0 : Int))]))) (.ite ((subF u v (bGo ts (u, v) (ts.length - Int.toNat (0 : Int)) (Int.toNat (0 : Int)) ((((0 : Int), (0 : Int)), (0 : Int)), (0 : Int), (0 : Int))).snd.fst (bGo ts (u, v) (ts.length - Int.toNat (0 : Int)) (Int.toNat (0 : Int)) ((((0 : Int), (0 : Int)), (0 : Int)), (0 : Int), (0 : Int))).snd.snd).snd != (0 : Int)) (.leaf [.agg [.int .i64 ((0 : Int)), .int .i64 ((0 : Int))], .int .i64 ((2 : Int))]) (.ite (!beatF (subF u v (bGo ts (u, v) (ts.length - Int.toNat (0 : Int)) (Int.toNat (0 : Int)) ((((0 : Int), (0 : Int)), (0 : Int)), (0 : Int), (0 : Int))).snd.fst (bGo ts (u, v) (ts.length - Int.toNat (0 : Int)) (Int.toNat (0 : Int)) ((((0 : Int), (0 : Int)), (0 : Int)), (0 : Int), (0 : Int))).snd.snd).fst.fst (subF u v (bGo ts (u, v) (ts.length - Int.toNat (0 : Int)) (Int.toNat (0 : Int)) ((((0 : Int), (0 : Int)), (0 : Int)), (0 : Int), (0 : Int))).snd.fst (bGo ts (u, v) (ts.length - Int.toNat (0 : Int)) (Int.toNat (0 : Int)) ((((0 : Int), (0 : Int)), (0 : Int)), (0 : Int), (0 : Int))).snd.snd).fst.snd) (.leaf [.agg [.int .i64 ((0 : Int)), .int .i64 ((0 : Int))], .int .i64 ((2 : Int))]) (.leaf [.agg [.int .i64 ((subF u v (bGo ts (u, v) (ts.length - Int.toNat (0 : Int)) (Int.toNat (0 : Int)) ((((0 : Int), (0 : Int)), (0 : Int)), (0 : Int), (0 : Int))).snd.fst (bGo ts (u, v) (ts.length - Int.toNat (0 : Int)) (Int.toNat (0 : Int)) ((((0 : Int), (0 : Int)), (0 : Int)), (0 : Int), (0 : Int))).snd.snd).fst.fst), .int .i64 ((subF u v (bGo ts (u, v) (ts.length - Int.toNat (0 : Int)) (Int.toNat (0 : Int)) ((((0 : Int), (0 : Int)), (0 : Int)), (0 : Int), (0 : Int))).snd.fst (bGo ts (u, v) (ts.length - Int.toNat (0 : Int)) (Int.toNat (0 : Int)) ((((0 : Int), (0 : Int)), (0 : Int)), (0 : Int), (0 : Int))).snd.snd).fst.snd)], .int .i64 ((0 : Int))]))))))))) := by kernel_rfl
  refine (congrArg (Tree.ok _) htree).mpr ?_
  clear htree
  simp only [Tree.ok, tyd_inj, packAV, AV.same, AV.same.sameL, encV, encS, enc, inK, Nd.ok, List.headD_cons, List.cons_append, List.nil_append, List.append_nil, true_and, and_true, Bool.true_and, Bool.and_true, bopF, Int.toNat_zero, Nat.sub_zero, beq_iff_eq, beq_eq_false_iff_ne, ne_eq, bne_iff_ne, bne_eq_false_iff_eq, decide_eq_true_eq, decide_eq_false_iff_not, Bool.not_eq_true', Bool.not_eq_false']
  rcases Bool.eq_false_or_eq_true (tmapF ts) with ht | ht
  · rcases Bool.eq_false_or_eq_true (okF u v) with hb | hb
    · simp only [ht, hb, and_self, if_true, Bool.true_eq_false, false_implies, true_implies]
      by_cases hu : u < 0
      · simp only [if_pos hu]
        repeat' first | apply And.intro | intro _
        all_goals first | omega | assumption | trivial | rfl | contradiction
      · have hB := fun s => @bGo_all ts (u, v) (tmap_beats ht).2.1 (by omega) s
        simp only [if_neg hu, hB, backF]
        generalize tAt ts (lstF ts (u, v)) = T at *
        generalize (chn ts (lstF ts (u, v))).1 = c at *
        clear hB
        by_cases k1 : (subF u v c.1 c.2).2 = 0
        · by_cases k2 : (divF (subF u v c.1 c.2).1.1 (subF u v c.1 c.2).1.2 T.2 1).2 = 0
          · generalize addF T.1.1 T.1.2 (divF (subF u v c.1 c.2).1.1 (subF u v c.1 c.2).1.2 T.2 1).1.1 (divF (subF u v c.1 c.2).1.1 (subF u v c.1 c.2).1.2 T.2 1).1.2 = y at *
            rcases Bool.eq_false_or_eq_true (beatF y.1.1 y.1.2) with k4 | k4
            · by_cases k3 : y.2 = 0
              · simp only [k1, k2, k3, k4, if_true, and_self]
                repeat' first | apply And.intro | intro _
                all_goals first | omega | assumption | trivial | rfl | contradiction
              · simp only [k1, k2, k3, k4, if_true, false_and, if_false]
                repeat' first | apply And.intro | intro _
                all_goals first | omega | assumption | trivial | rfl | contradiction
            · simp only [k1, k2, k4, if_true, Bool.false_eq_true, and_false, if_false]
              repeat' first | apply And.intro | intro _
              all_goals first | omega | assumption | trivial | rfl | contradiction
          · simp only [k1, k2, if_true, if_false]
            repeat' first | apply And.intro | intro _
            all_goals first | omega | assumption | trivial | rfl | contradiction
        · simp only [k1, if_false]
          repeat' first | apply And.intro | intro _
          all_goals first | omega | assumption | trivial | rfl | contradiction
    · simp only [ht, hb, and_false, Bool.false_eq_true, if_false]
      repeat' first | apply And.intro | intro _
      all_goals first | omega | assumption | trivial | rfl | contradiction
  · simp only [ht, false_and, Bool.false_eq_true, if_false]
    repeat' first | apply And.intro | intro _
    all_goals first | omega | assumption | trivial | rfl | contradiction
def C_Gc_3 : FuncId → Option Ct := addC 15 ct_iBeatOfPosition C_Gc_2
theorem C_Gc_3_ok : COk Tryz.prog C_Gc_3 := addC_ok C_Gc_2_ok sat_iBeatOfPosition

def C_Gc : FuncId → Option Ct := C_Gc_3
theorem C_Gc_ok : COk Tryz.prog C_Gc := C_Gc_3_ok
end Go.Proofs.YtkeckmdmmbeaiaaGreatDoor
