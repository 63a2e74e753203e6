/- Contracts: positions of beats, beats of positions; the laws. Conditions: as each says. -/
import Derived.Test.YtdglkoeojhakhaaGb
set_option linter.unusedSimpArgs false
set_option linter.unusedVariables false
namespace Go.Proofs.Ytdglkoeojhakhaa
open Go.RowKit Sx
set_option maxRecDepth 100000
set_option maxHeartbeats 1000000
def posF (ts : List tTempo.den) (b : Fr) : Fr × Int := if askF ts b = 0 then (if (posGo ts b ts.length 0 (0, 1)).2 = 0 then posGo ts b ts.length 0 (0, 1) else ((0, 0), 2)) else ((0, 0), askF ts b)
/-- What a position says of the last tempo and the beat: both programs' words. -/
theorem pos_both {ts : List tTempo.den} {b : Fr} (h : askF ts b = 0) : (posGo ts b ts.length 0 (0, 1) = onF (tAt ts (idxF ts b)).1 b (tAt ts (idxF ts b)).2 (atF (psGo ts ts.length 0).1 (idxF ts b))) ∧
    (((posGo ts b ts.length 0 (0, 1)).2 = 0 ∧ okF (posGo ts b ts.length 0 (0, 1)).1.1 (posGo ts b ts.length 0 (0, 1)).1.2 = true) ∨ (posGo ts b ts.length 0 (0, 1)).2 = 2) := by
  obtain ⟨g1, g2, g3⟩ := askF_zero h
  obtain ⟨k1, k2, k3⟩ := tmap_beats g1
  have k4 := tmap_idx g1 g2 g3
  obtain ⟨m1, m2⟩ := tmap_list g1
  have e := pos_beat g1 (okF_bd g2).1.1 g3
  refine ⟨e, ?_⟩
  rw [e]
  obtain ⟨_, _, h3, _, _⟩ := tmap_spec g1
  have g := goodT_ok (h3 _ k4).1
  have h2 := m2 _ k4
  refine onF_ok g.1 g2 ?_ g.2.2
  have : (psGo ts ts.length 0).1.getD (idxF ts b) (0, 0) = atF (psGo ts ts.length 0).1 (idxF ts b) := rfl
  rw [this, h2.1]
  exact h2.2
def ct_iPositionOfBeat : Ct := ctOf [.s qTempo, .s tFrac] (fun ((ts : List tTempo.den), ((u : Int), (v : Int)), _) => .p ((ts.length : Int) ≤ 9223372036854775807)) (fun ((ts : List tTempo.den), ((u : Int), (v : Int)), _) => .tup [.agg (enc tFrac (posF ts (u, v)).1), .int .i64 (posF ts (u, v)).2])
set_option maxHeartbeats 1000000 in
theorem sat_iPositionOfBeat : Sat Try.prog 57 ct_iPositionOfBeat := by
  refine sat_typed (C := C_Gb) (L := noL) (wr := false) mixedOk Try.func57 C_Gb_ok (loops0 (by kernel_rfl)) (fun _ => by first | rfl | (simp [ownsOf, ownsOf.ownsL, enc, encV, encS])) fun x hp => ?_
  obtain ⟨(ts : List tTempo.den), ⟨(u : Int), (v : Int)⟩, _⟩ := x
  replace hp : (ts.length : Int) ≤ 9223372036854775807 := hp
  have htree : exFunc Try.prog C_Gb false noL Try.f57 (encA [.s qTempo, .s tFrac] (ts, (u, v), ())) = .need ((↑[ts].length : Int) ≤ (9223372036854775807 : Int) ∧ ∀ (ts_1 : List tTempo.den), ts_1 ∈ [ts] → (↑ts_1.length : Int) ≤ (9223372036854775807 : Int)) (.ite (bcF [ts] (u, v) != (0 : Int)) (.leaf [.agg [.int .i64 ((0 : Int)), .int .i64 ((0 : Int))], .int .i64 (bcF [ts] (u, v))]) (.need ((∀ (i : Nat), i < ts.length → okF (tAt ts i).fst.fst (tAt ts i).fst.snd = true) ∧ okF u v = true ∧ ts.length ≤ (8 : Nat)) (.ite ((posGo ts (u, v) ts.length (0 : Nat) ((0 : Int), (1 : Int))).snd != (0 : Int)) (.leaf [.agg [.int .i64 ((0 : Int)), .int .i64 ((0 : Int))], .int .i64 ((posGo ts (u, v) ts.length (0 : Nat) ((0 : Int), (1 : Int))).snd)]) (.leaf [.agg [.int .i64 ((posGo ts (u, v) ts.length (0 : Nat) ((0 : Int), (1 : Int))).fst.fst), .int .i64 ((posGo ts (u, v) ts.length (0 : Nat) ((0 : Int), (1 : Int))).fst.snd)], .int .i64 ((0 : Int))])))) := by kernel_rfl
  refine (congrArg (Tree.ok _) htree).mpr ?_
  clear htree
  have hm : ∀ x ∈ ([ts] : List (List tTempo.den)), (x.length : Int) ≤ 9223372036854775807 := fun x hx => by rw [List.mem_singleton] at hx; rw [hx]; exact hp
  simp only [Tree.ok, tyd_inj, packAV, AV.same, AV.same.sameL, encV, encS, enc, inK, Nd.ok, List.headD_cons, List.cons_append, List.nil_append, List.append_nil, true_and, and_true, Bool.true_and, Bool.and_true, posF, bne_iff_ne, ne_eq, bne_eq_false_iff_eq, List.length_singleton]
  rw [bcF_one]
  by_cases h : askF ts (u, v) = 0
  · obtain ⟨g1, g2, g3⟩ := askF_zero h
    obtain ⟨k1, k2, k3⟩ := tmap_beats g1
    obtain ⟨_, h2⟩ := pos_both h
    simp only [if_pos h]
    by_cases k : (posGo ts (u, v) ts.length 0 (0, 1)).2 = 0
    · simp only [if_pos k]
      repeat' first | apply And.intro | intro _
      all_goals first | omega | exact g2 | exact k3 _ ‹_› | exact hm _ ‹_› | assumption | trivial | rfl | contradiction
    · simp only [if_neg k]
      repeat' first | apply And.intro | intro _
      all_goals first | omega | exact g2 | exact k3 _ ‹_› | exact hm _ ‹_› | assumption | trivial | rfl | contradiction
  · simp only [if_neg h]
    repeat' first | apply And.intro | intro _
    all_goals first | omega | exact hm _ ‹_› | assumption | trivial | rfl | contradiction
def C_Gc_1 : FuncId → Option Ct := addC 57 ct_iPositionOfBeat C_Gb
theorem C_Gc_1_ok : COk Try.prog C_Gc_1 := addC_ok C_Gb_ok sat_iPositionOfBeat
theorem etaF (x : Fr) : (x.1, x.2) = x := rfl
def ct_sPositionOfBeat : Ct := ctOf [.s qTempo, .s tFrac] (fun ((ts : List tTempo.den), ((u : Int), (v : Int)), _) => .p ((ts.length : Int) ≤ 9223372036854775807)) (fun ((ts : List tTempo.den), ((u : Int), (v : Int)), _) => .tup [.agg (enc tFrac (posF ts (u, v)).1), .int .i64 (posF ts (u, v)).2])
set_option maxHeartbeats 1000000 in
theorem sat_sPositionOfBeat : Sat Try.prog 56 ct_sPositionOfBeat := by
  refine sat_typed (C := C_Gc_1) (L := noL) (wr := false) mixedOk Try.func56 C_Gc_1_ok (loops0 (by kernel_rfl)) (fun _ => by first | rfl | (simp [ownsOf, ownsOf.ownsL, enc, encV, encS])) fun x hp => ?_
  obtain ⟨(ts : List tTempo.den), ⟨(u : Int), (v : Int)⟩, _⟩ := x
  replace hp : (ts.length : Int) ≤ 9223372036854775807 := hp
  have htree : exFunc Try.prog C_Gc_1 false noL Try.f56 (encA [.s qTempo, .s tFrac] (ts, (u, v), ())) = .need ((↑ts.length : Int) ≤ (9223372036854775807 : Int)) (.ite (askF ts (u, v) != (0 : Int)) (.leaf [.agg [.int .i64 ((0 : Int)), .int .i64 ((0 : Int))], .int .i64 (askF ts (u, v))]) (.need ((↑ts.length : Int) ≤ (9223372036854775807 : Int)) (.need (okF u v = true ∧ (∀ (k : Nat), k < ts.length → okF (tAt ts k).fst.fst (tAt ts k).fst.snd = true) ∧ ts.length ≤ (8 : Nat)) (.need ((0 : Int) ≤ (↑(idxF ts (u, v)) : Int) ∧ (↑(idxF ts (u, v)) : Int) < (↑ts.length : Int)) (.need ((0 : Int) ≤ (↑(idxF ts (u, v)) : Int) ∧ (↑(idxF ts (u, v)) : Int) < (↑ts.length : Int)) (.need ((0 : Int) ≤ (↑(idxF ts (u, v)) : Int) ∧ (↑(idxF ts (u, v)) : Int) < (↑(if tmapF ts = true then (psGo ts ts.length (0 : Nat)).fst else []).length : Int)) (.need ((↑(idxF ts (u, v)) : Int).toNat < (if tmapF ts = true then (psGo ts ts.length (0 : Nat)).fst else []).length) (.ite (!(on2F ((getT tTempo ts (↑(idxF ts (u, v)) : Int)).fst.fst, (getT tTempo ts (↑(idxF ts (u, v)) : Int)).fst.snd) (u, v) (getT tTempo ts (↑(idxF ts (u, v)) : Int)).snd (((if tmapF ts = true then (psGo ts ts.length (0 : Nat)).fst else []).getD (↑(idxF ts (u, v)) : Int).toNat tFrac.zero).fst, ((if tmapF ts = true then (psGo ts ts.length (0 : Nat)).fst else []).getD (↑(idxF ts (u, v)) : Int).toNat tFrac.zero).snd)).snd) (.leaf [.agg [.int .i64 ((0 : Int)), .int .i64 ((0 : Int))], .int .i64 ((2 : Int))]) (.leaf [.agg [.int .i64 ((on2F ((getT tTempo ts (↑(idxF ts (u, v)) : Int)).fst.fst, (getT tTempo ts (↑(idxF ts (u, v)) : Int)).fst.snd) (u, v) (getT tTempo ts (↑(idxF ts (u, v)) : Int)).snd (((if tmapF ts = true then (psGo ts ts.length (0 : Nat)).fst else []).getD (↑(idxF ts (u, v)) : Int).toNat tFrac.zero).fst, ((if tmapF ts = true then (psGo ts ts.length (0 : Nat)).fst else []).getD (↑(idxF ts (u, v)) : Int).toNat tFrac.zero).snd)).fst.fst), .int .i64 ((on2F ((getT tTempo ts (↑(idxF ts (u, v)) : Int)).fst.fst, (getT tTempo ts (↑(idxF ts (u, v)) : Int)).fst.snd) (u, v) (getT tTempo ts (↑(idxF ts (u, v)) : Int)).snd (((if tmapF ts = true then (psGo ts ts.length (0 : Nat)).fst else []).getD (↑(idxF ts (u, v)) : Int).toNat tFrac.zero).fst, ((if tmapF ts = true then (psGo ts ts.length (0 : Nat)).fst else []).getD (↑(idxF ts (u, v)) : Int).toNat tFrac.zero).snd)).fst.snd)], .int .i64 ((0 : Int))]))))))))) := by kernel_rfl
  refine (congrArg (Tree.ok _) htree).mpr ?_
  clear htree
  have hz : ∀ (k : Int), getT tTempo ts k = tAt ts k.toNat := fun _ => rfl
  simp only [Tree.ok, tyd_inj, packAV, AV.same, AV.same.sameL, encV, encS, enc, inK, Nd.ok, List.headD_cons, List.cons_append, List.nil_append, List.append_nil, true_and, and_true, Bool.true_and, Bool.and_true, posF, hz, bne_iff_ne, ne_eq, bne_eq_false_iff_eq, Int.toNat_natCast, Bool.not_eq_true', Bool.not_eq_false']
  by_cases h : askF ts (u, v) = 0
  · obtain ⟨g1, g2, g3⟩ := askF_zero h
    obtain ⟨k1, k2, k3⟩ := tmap_beats g1
    have k4 := tmap_idx g1 g2 g3
    obtain ⟨m1, m2⟩ := tmap_list g1
    obtain ⟨e, h2⟩ := pos_both h
    have hat : ∀ k, (psGo ts ts.length 0).1.getD k tFrac.zero = atF (psGo ts ts.length 0).1 k := fun _ => rfl
    have o := on2_onF (tAt ts (idxF ts (u, v))).1 (u, v) (tAt ts (idxF ts (u, v))).2 (atF (psGo ts ts.length 0).1 (idxF ts (u, v)))
    rw [← e] at o
    simp only [if_pos h, g1, if_true, hat, etaF]
    by_cases k : (posGo ts (u, v) ts.length 0 (0, 1)).2 = 0
    · have o1 := o.1.2 k
      have o2 := o.2 k
      simp only [if_pos k, o1, o2]
      repeat' first | apply And.intro | intro _
      all_goals first | omega | exact g2 | exact k3 _ ‹_› | assumption | trivial | rfl | contradiction
    · have o1 : (on2F (tAt ts (idxF ts (u, v))).1 (u, v) (tAt ts (idxF ts (u, v))).2 (atF (psGo ts ts.length 0).1 (idxF ts (u, v)))).2 = false := by
        rw [← Bool.not_eq_true]; exact fun hx => k (o.1.1 hx)
      simp only [if_neg k, o1]
      repeat' first | apply And.intro | intro _
      all_goals first | omega | exact g2 | exact k3 _ ‹_› | assumption | trivial | rfl | contradiction
  · simp only [if_neg h]
    repeat' first | apply And.intro | intro _
    all_goals first | omega | assumption | trivial | rfl | contradiction
def C_Gc_2 : FuncId → Option Ct := addC 56 ct_sPositionOfBeat C_Gc_1
theorem C_Gc_2_ok : COk Try.prog C_Gc_2 := addC_ok C_Gc_1_ok sat_sPositionOfBeat
theorem okF_00 : okF 0 0 = false := rfl
theorem posF_ok (ts : List tTempo.den) (b : Fr) : ((posF ts b).2 = 0 ∧ okF (posF ts b).1.1 (posF ts b).1.2 = true) ∨ ((posF ts b).2 ≠ 0 ∧ (posF ts b).1 = (0, 0)) := by
  unfold posF
  split
  · rename_i h
    obtain ⟨_, h2⟩ := pos_both h
    split
    · rename_i k
      exact .inl ⟨k, (h2.resolve_right (by omega)).2⟩
    · exact .inr ⟨by simp, rfl⟩
  · rename_i h
    exact .inr ⟨h, rfl⟩
theorem divF_ok {a b c d : Int} (h1 : okF a b = true) (h2 : okF c d = true) : ((divF a b c d).2 = 0 ∧ okF (divF a b c d).1.1 (divF a b c d).1.2 = true) ∨ (divF a b c d).2 = 2 := by
  have g1 := okF_bd h1
  unfold divF
  rw [if_pos ⟨h1, h2⟩]
  split
  · exact .inr rfl
  · rename_i hc
    have hne : b * c ≠ 0 := Int.mul_ne_zero (by omega) hc
    rcases mkF_code (a * d) (b * c) hne with h | h
    · exact .inl ⟨h, mkF_ok hne h⟩
    · exact .inr h.1
def lstGo (key : Nat → Fr) (b : Fr) : Nat → Nat → Nat → Nat
  | 0, _, k => k
  | n + 1, i, k => lstGo key b n (i + 1) (if cmpB (key i) b ≤ 0 then i else k)
theorem lstGo_go (key : Nat → Fr) (b : Fr) (n i k : Nat) (h : i < n) : lstGo key b (n - i) i k = lstGo key b (n - (i + 1)) (i + 1) (if cmpB (key i) b ≤ 0 then i else k) := by
  rw [show n - i = (n - (i + 1)) + 1 by omega]; rfl
theorem lstGo_lt (key : Nat → Fr) (b : Fr) (N : Nat) : ∀ n i k : Nat, i + n = N → k < N → lstGo key b n i k < N
  | 0, _, _, _, h => h
  | n + 1, i, k, h, hk => by
    unfold lstGo
    refine lstGo_lt key b N n (i + 1) _ (by omega) ?_
    split <;> omega
theorem lstGo_congr {key key' : Nat → Fr} (b : Fr) (N : Nat) (h : ∀ i, i < N → key i = key' i) : ∀ n i k : Nat, i + n = N → lstGo key b n i k = lstGo key' b n i k
  | 0, _, _, _ => rfl
  | n + 1, i, k, hi => by
    unfold lstGo
    rw [h i (by omega)]
    exact lstGo_congr b N h n (i + 1) _ (by omega)
def bGo (ts : List tTempo.den) (b : Fr) : Nat → Nat → ((Int × Int) × Int) × Fr → ((Int × Int) × Int) × Fr
  | 0, _, s => s
  | n + 1, i, s => bGo ts b n (i + 1) (if cmpB (chn ts i).1 b ≤ 0 then (tAt ts i, (chn ts i).1) else s)
theorem bGo_go (ts : List tTempo.den) (b : Fr) (i : Nat) (s : ((Int × Int) × Int) × Fr) (h : i < ts.length) : bGo ts b (ts.length - i) i s = bGo ts b (ts.length - (i + 1)) (i + 1) (if cmpB (chn ts i).1 b ≤ 0 then (tAt ts i, (chn ts i).1) else s) := by
  rw [show ts.length - i = (ts.length - (i + 1)) + 1 by omega]; rfl
theorem bGo_idx (ts : List tTempo.den) (b : Fr) : ∀ n i k : Nat, bGo ts b n i (tAt ts k, (chn ts k).1) = (tAt ts (lstGo (fun j => (chn ts j).1) b n i k), (chn ts (lstGo (fun j => (chn ts j).1) b n i k)).1)
  | 0, _, _ => rfl
  | n + 1, i, k => by
    unfold bGo lstGo
    rw [← bGo_idx ts b n (i + 1) _]
    congr 1
    split <;> rfl
def lstF (ts : List tTempo.den) (b : Fr) : Nat := lstGo (fun j => (chn ts j).1) b ts.length 0 0
theorem bGo_all {ts : List tTempo.den} {b : Fr} (h : 1 ≤ ts.length) (hb : 0 ≤ b.1) (s : ((Int × Int) × Int) × Fr) : bGo ts b ts.length 0 s = (tAt ts (lstF ts b), (chn ts (lstF ts b)).1) := by
  have hle : cmpB (chn ts 0).1 b ≤ 0 := by
    rw [cmpB_le]
    show 0 * b.2 ≤ b.1 * 1
    omega
  have e := bGo_go ts b 0 s (by omega)
  have e2 := lstGo_go (fun j => (chn ts j).1) b ts.length 0 0 (by omega)
  rw [Nat.sub_zero, if_pos hle] at e e2
  unfold lstF
  rw [e, e2]
  exact bGo_idx ts b _ 1 0
def backF (T : (Int × Int) × Int) (c p : Fr) : Fr × Int :=
  if (subF p.1 p.2 c.1 c.2).2 = 0 then
    if (divF (subF p.1 p.2 c.1 c.2).1.1 (subF p.1 p.2 c.1 c.2).1.2 T.2 1).2 = 0 then
      if (addF T.1.1 T.1.2 (divF (subF p.1 p.2 c.1 c.2).1.1 (subF p.1 p.2 c.1 c.2).1.2 T.2 1).1.1 (divF (subF p.1 p.2 c.1 c.2).1.1 (subF p.1 p.2 c.1 c.2).1.2 T.2 1).1.2).2 = 0 ∧ beatF (addF T.1.1 T.1.2 (divF (subF p.1 p.2 c.1 c.2).1.1 (subF p.1 p.2 c.1 c.2).1.2 T.2 1).1.1 (divF (subF p.1 p.2 c.1 c.2).1.1 (subF p.1 p.2 c.1 c.2).1.2 T.2 1).1.2).1.1 (addF T.1.1 T.1.2 (divF (subF p.1 p.2 c.1 c.2).1.1 (subF p.1 p.2 c.1 c.2).1.2 T.2 1).1.1 (divF (subF p.1 p.2 c.1 c.2).1.1 (subF p.1 p.2 c.1 c.2).1.2 T.2 1).1.2).1.2 = true
      then ((addF T.1.1 T.1.2 (divF (subF p.1 p.2 c.1 c.2).1.1 (subF p.1 p.2 c.1 c.2).1.2 T.2 1).1.1 (divF (subF p.1 p.2 c.1 c.2).1.1 (subF p.1 p.2 c.1 c.2).1.2 T.2 1).1.2).1, 0) else ((0, 0), 2)
    else ((0, 0), 2)
  else ((0, 0), 2)
def bopF (ts : List tTempo.den) (p : Fr) : Fr × Int := if tmapF ts = true ∧ okF p.1 p.2 = true then (if p.1 < 0 then ((0, 0), 2) else backF (tAt ts (lstF ts p)) (chn ts (lstF ts p)).1 p) else ((0, 0), 1)
theorem tmap_chn {ts : List tTempo.den} (h : tmapF ts = true) (k : Nat) (hk : k < ts.length) : posGo ts (tAt ts k).1 ts.length 0 (0, 1) = ((chn ts k).1, 0) := by
  obtain ⟨h1, h2, h3, h4, h5⟩ := tmap_spec h
  rw [pos_tempo h3 k hk, if_pos (h4 k hk)]

def C_Gc : FuncId → Option Ct := C_Gc_2
theorem C_Gc_ok : COk Try.prog C_Gc := C_Gc_2_ok
end Go.Proofs.Ytdglkoeojhakhaa
