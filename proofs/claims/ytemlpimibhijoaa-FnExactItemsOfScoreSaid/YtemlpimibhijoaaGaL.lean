/- Plain laws on tempo maps: the positions of tempos, one by one and each from the start. Conditions: as each says. -/
import Derived.Test.YtemlpimibhijoaaFj
set_option linter.unusedSimpArgs false
set_option linter.unusedVariables false
namespace Go.Proofs.Ytemlpimibhijoaa
open Go.RowKit Sx
def tAt (ts : List tTempo.den) (i : Nat) : (Int × Int) × Int := ts.getD i tTempo.zero
def cmpB (a b : Fr) : Int := cmpF a.1 a.2 b.1 b.2
theorem mkF_self {a b : Int} (h : okF a b = true) : mkF a b = ((a, b), 0) := by
  have hb := okF_bd h
  simp only [okF, Bool.and_eq_true, inB_iff, beq_iff_eq] at h
  have hg : (Int.gcd a b : Int) = 1 := h.2.2
  rw [mkF_pos a b (by omega), hg]
  simp only [Int.ediv_one]
  rw [if_neg (by omega)]
  have h2 : decide (b < 0) = false := by simp; omega
  rw [h2]
  by_cases h3 : a < 0
  · rw [decide_eq_true h3]
    simp only [Bool.true_bne, Bool.not_false, if_true, Prod.mk.injEq, and_true]
    omega
  · rw [decide_eq_false h3]
    simp only [bne_self_eq_false, Bool.false_eq_true, if_false, Prod.mk.injEq, and_true]
    omega
theorem gcd_one (n : Int) : (Int.gcd n 1 : Int) = 1 := by simp
theorem okF_int {n : Int} (h : -1000000000 ≤ n ∧ n ≤ 1000000000) : okF n 1 = true := by
  simp only [okF, gcd_one, Bool.and_eq_true, inB_iff, beq_self_eq_true, and_true]
  omega
theorem mkF_zero {d : Int} (h : 1 ≤ d) : mkF 0 d = ((0, 1), 0) := by
  have hg : (Int.gcd 0 d : Int) = d := by simp; omega
  rw [mkF_pos 0 d (by omega), hg]
  have h1 : (d.natAbs : Int) / d = 1 := by rw [show (d.natAbs : Int) = d by omega]; exact Int.ediv_self (by omega)
  rw [h1]
  have h2 : decide (d < 0) = false := by simp; omega
  rw [h2]
  simp
theorem subF_self {a b : Int} (h : okF a b = true) : subF a b a b = ((0, 1), 0) := by
  have hb := okF_bd h
  have h1 : 1 ≤ b * b := by have := Int.mul_le_mul (a := 1) (b := 1) (c := b) (d := b) (by omega) (by omega) (by omega) (by omega); omega
  unfold subF opF
  rw [h]
  simp only [Bool.and_self, if_true, Int.sub_self]
  exact mkF_zero h1
theorem okF_01 : okF 0 1 = true := okF_int (by omega)
theorem mulF_zero {s : Int} (h : 1 ≤ s ∧ s ≤ 1000) : mulF 0 1 s 1 = ((0, 1), 0) := by
  have h1 := okF_int (n := s) (by omega)
  unfold mulF opF
  rw [okF_01, h1]
  simp only [Bool.and_self, if_true, Int.zero_mul, Int.mul_one]
  exact mkF_zero (by omega)
theorem addF_zero {a b : Int} (h : okF a b = true) : addF a b 0 1 = ((a, b), 0) := by
  unfold addF opF
  rw [okF_01, h]
  simp only [Bool.and_self, if_true, Int.zero_mul, Int.mul_one, Int.add_zero]
  exact mkF_self h
theorem opF_ok {n d : Int} (hd : d ≠ 0) : ((opF n d true).2 = 0 ∧ okF (opF n d true).1.1 (opF n d true).1.2 = true) ∨ (opF n d true).2 = 2 := by
  have e : opF n d true = mkF n d := by unfold opF; rfl
  rw [e]
  rcases mkF_code n d hd with h | h
  · exact .inl ⟨h, mkF_ok hd h⟩
  · exact .inr h.1
theorem mul_ne {a b c d : Int} (h1 : okF a b = true) (h2 : okF c d = true) : b * d ≠ 0 := Int.mul_ne_zero (by have := okF_bd h1; omega) (by have := okF_bd h2; omega)
theorem addF_ok {a b c d : Int} (h1 : okF a b = true) (h2 : okF c d = true) : ((addF a b c d).2 = 0 ∧ okF (addF a b c d).1.1 (addF a b c d).1.2 = true) ∨ (addF a b c d).2 = 2 := by
  unfold addF; rw [h1, h2]; exact opF_ok (mul_ne h1 h2)
theorem subF_ok {a b c d : Int} (h1 : okF a b = true) (h2 : okF c d = true) : ((subF a b c d).2 = 0 ∧ okF (subF a b c d).1.1 (subF a b c d).1.2 = true) ∨ (subF a b c d).2 = 2 := by
  unfold subF; rw [h1, h2]; exact opF_ok (mul_ne h1 h2)
/-- On by a difference of beats times some samples. -/
def onF (b u : Fr) (s : Int) (p : Fr) : Fr × Int :=
  if (subF u.1 u.2 b.1 b.2).2 = 0 then
    (if (mulF (subF u.1 u.2 b.1 b.2).1.1 (subF u.1 u.2 b.1 b.2).1.2 s 1).2 = 0 then addF p.1 p.2 (mulF (subF u.1 u.2 b.1 b.2).1.1 (subF u.1 u.2 b.1 b.2).1.2 s 1).1.1 (mulF (subF u.1 u.2 b.1 b.2).1.1 (subF u.1 u.2 b.1 b.2).1.2 s 1).1.2
    else (p, (mulF (subF u.1 u.2 b.1 b.2).1.1 (subF u.1 u.2 b.1 b.2).1.2 s 1).2))
  else (p, (subF u.1 u.2 b.1 b.2).2)
/-- The same, whatever fails on the way. -/
def on2F (b u : Fr) (s : Int) (p : Fr) : Fr × Bool :=
  ((addF p.1 p.2 (mulF (subF u.1 u.2 b.1 b.2).1.1 (subF u.1 u.2 b.1 b.2).1.2 s 1).1.1 (mulF (subF u.1 u.2 b.1 b.2).1.1 (subF u.1 u.2 b.1 b.2).1.2 s 1).1.2).1,
    decide ((subF u.1 u.2 b.1 b.2).2 = 0 ∧ (mulF (subF u.1 u.2 b.1 b.2).1.1 (subF u.1 u.2 b.1 b.2).1.2 s 1).2 = 0 ∧ (addF p.1 p.2 (mulF (subF u.1 u.2 b.1 b.2).1.1 (subF u.1 u.2 b.1 b.2).1.2 s 1).1.1 (mulF (subF u.1 u.2 b.1 b.2).1.1 (subF u.1 u.2 b.1 b.2).1.2 s 1).1.2).2 = 0))
theorem on2_onF (b u : Fr) (s : Int) (p : Fr) : ((on2F b u s p).2 = true ↔ (onF b u s p).2 = 0) ∧ ((onF b u s p).2 = 0 → (on2F b u s p).1 = (onF b u s p).1) := by
  unfold on2F onF
  generalize subF u.1 u.2 b.1 b.2 = d
  generalize mulF d.1.1 d.1.2 s 1 = m
  generalize addF p.1 p.2 m.1.1 m.1.2 = y
  simp only [decide_eq_true_eq]
  by_cases h1 : d.2 = 0
  · rw [if_pos h1]
    by_cases h2 : m.2 = 0
    · rw [if_pos h2]
      exact ⟨⟨fun h => h.2.2, fun h => ⟨h1, h2, h⟩⟩, fun _ => rfl⟩
    · rw [if_neg h2]
      exact ⟨⟨fun h => absurd h.2.1 h2, fun h => absurd h h2⟩, fun h => absurd h h2⟩
  · rw [if_neg h1]
    exact ⟨⟨fun h => absurd h.1 h1, fun h => absurd h h1⟩, fun h => absurd h h1⟩
theorem onF_ok {b u p : Fr} {s : Int} (hb : okF b.1 b.2 = true) (hu : okF u.1 u.2 = true) (hp : okF p.1 p.2 = true) (hs : 1 ≤ s ∧ s ≤ 1000) :
    ((onF b u s p).2 = 0 ∧ okF (onF b u s p).1.1 (onF b u s p).1.2 = true) ∨ (onF b u s p).2 = 2 := by
  have h1 := subF_ok hu hb
  unfold onF
  split
  · rename_i hd
    have h1 := h1.resolve_right (by omega)
    have h2 := mulF_ok h1.2 (okF_int (n := s) (by omega))
    split
    · rename_i hm
      have h2 := h2.resolve_right (by omega)
      exact addF_ok hp h2.2
    · right; omega
  · right; omega
theorem onF_self {b p : Fr} {s : Int} (hb : okF b.1 b.2 = true) (hp : okF p.1 p.2 = true) (hs : 1 ≤ s ∧ s ≤ 1000) : onF b b s p = (p, 0) := by
  unfold onF
  rw [subF_self hb]
  simp only [if_true, mulF_zero hs, addF_zero hp]
theorem cmpB_lt {a b : Fr} : cmpB a b < 0 ↔ a.1 * b.2 < b.1 * a.2 := by
  unfold cmpB cmpF
  repeat' split
  all_goals omega
theorem cmpB_gt {a b : Fr} : 0 < cmpB a b ↔ b.1 * a.2 < a.1 * b.2 := by
  unfold cmpB cmpF
  repeat' split
  all_goals omega
theorem cmpB_le {a b : Fr} : cmpB a b ≤ 0 ↔ a.1 * b.2 ≤ b.1 * a.2 := by
  unfold cmpB cmpF
  repeat' split
  all_goals omega
theorem ltB_leB {a b c : Fr} (ha : 1 ≤ a.2) (hb : 1 ≤ b.2) (hc : 1 ≤ c.2) (h1 : cmpB a b < 0) (h2 : cmpB b c ≤ 0) : cmpB a c < 0 := by
  rw [cmpB_lt] at h1 ⊢
  rw [cmpB_le] at h2
  have e1 := Int.mul_lt_mul_of_pos_right h1 (show 0 < c.2 by omega)
  have e2 := Int.mul_le_mul_of_nonneg_right h2 (show 0 ≤ a.2 by omega)
  have e3 : a.1 * c.2 * b.2 < c.1 * a.2 * b.2 := by
    rw [show a.1 * c.2 * b.2 = a.1 * b.2 * c.2 by rw [Int.mul_assoc, Int.mul_comm c.2, ← Int.mul_assoc], show c.1 * a.2 * b.2 = c.1 * b.2 * a.2 by rw [Int.mul_assoc, Int.mul_comm a.2, ← Int.mul_assoc]]
    rw [show b.1 * a.2 * c.2 = b.1 * c.2 * a.2 by rw [Int.mul_assoc, Int.mul_comm a.2, ← Int.mul_assoc]] at e1
    omega
  exact Int.lt_of_mul_lt_mul_right e3 (by omega)
def goodT (x : (Int × Int) × Int) : Bool := beatF x.1.1 x.1.2 && inB x.2 1 1000
theorem goodT_ok {x : (Int × Int) × Int} (h : goodT x = true) : okF x.1.1 x.1.2 = true ∧ 0 ≤ x.1.1 ∧ (1 ≤ x.2 ∧ x.2 ≤ 1000) := by
  simp only [goodT, beatF, Bool.and_eq_true, decide_eq_true_eq, inB_iff] at h
  exact ⟨h.1.1, h.1.2.1, h.2⟩
def chn (ts : List tTempo.den) : Nat → Fr × Int
  | 0 => ((0, 1), 0)
  | k + 1 => if (chn ts k).2 = 0 then onF (tAt ts k).1 (tAt ts (k + 1)).1 (tAt ts k).2 (chn ts k).1 else chn ts k
/-- Good tempos in order. -/
def Ord (ts : List tTempo.den) : Prop := ∀ i, i < ts.length → goodT (tAt ts i) = true ∧ (i = 0 ∨ cmpB (tAt ts (i - 1)).1 (tAt ts i).1 < 0)
theorem Ord.lt {ts : List tTempo.den} (h : Ord ts) : ∀ (d i : Nat), i + d + 1 < ts.length → cmpB (tAt ts i).1 (tAt ts (i + d + 1)).1 < 0
  | 0, i, hi => by
    have := (h (i + 1) (by omega)).2.resolve_left (by omega)
    simpa using this
  | d + 1, i, hi => by
    have h1 := (h (i + 1) (by omega)).2.resolve_left (by omega)
    have h2 := Ord.lt h d (i + 1) (by omega)
    have b0 := okF_bd (goodT_ok (h i (by omega)).1).1
    have b1 := okF_bd (goodT_ok (h (i + 1) (by omega)).1).1
    have b2 := okF_bd (goodT_ok (h (i + (d + 1) + 1) (by omega)).1).1
    rw [show i + 1 + d + 1 = i + (d + 1) + 1 by omega] at h2
    exact ltB_leB b0.1.1 b1.1.1 b2.1.1 (by simpa using h1) (by omega)
theorem chn_ok {ts : List tTempo.den} (h : Ord ts) : ∀ k, k < ts.length → ((chn ts k).2 = 0 ∧ okF (chn ts k).1.1 (chn ts k).1.2 = true) ∨ (chn ts k).2 = 2
  | 0, _ => .inl ⟨rfl, okF_01⟩
  | k + 1, hk => by
    have ih := chn_ok h k (by omega)
    unfold chn
    split
    · rename_i h0
      have ih := ih.resolve_right (by omega)
      have g0 := goodT_ok (h k (by omega)).1
      have g1 := goodT_ok (h (k + 1) hk).1
      exact onF_ok g0.1 g1.1 ih.2 g0.2.2
    · rcases ih with ih | ih
      · omega
      · exact .inr ih
theorem chn_bad {ts : List tTempo.den} : ∀ (d k : Nat), (chn ts k).2 ≠ 0 → chn ts (k + d) = chn ts k
  | 0, k, _ => rfl
  | d + 1, k, h => by
    have ih := chn_bad d k h
    show (if (chn ts (k + d)).2 = 0 then _ else chn ts (k + d)) = _
    rw [ih, if_neg h]
/-- The position of a beat, from a tempo on. -/
def posGo (ts : List tTempo.den) (beat : Fr) : Nat → Nat → Fr → Fr × Int
  | 0, _, p => (p, 0)
  | n + 1, i, p =>
    if i + 1 = ts.length ∨ 0 < cmpB (tAt ts (i + 1)).1 beat then onF (tAt ts i).1 beat (tAt ts i).2 p
    else if (onF (tAt ts i).1 (tAt ts (i + 1)).1 (tAt ts i).2 p).2 = 0 then posGo ts beat n (i + 1) (onF (tAt ts i).1 (tAt ts (i + 1)).1 (tAt ts i).2 p).1
    else onF (tAt ts i).1 (tAt ts (i + 1)).1 (tAt ts i).2 p
theorem posGo_go (ts : List tTempo.den) (beat : Fr) (i : Nat) (p : Fr) (h : i < ts.length) : posGo ts beat (ts.length - i) i p = if i + 1 = ts.length ∨ 0 < cmpB (tAt ts (i + 1)).1 beat then onF (tAt ts i).1 beat (tAt ts i).2 p
    else if (onF (tAt ts i).1 (tAt ts (i + 1)).1 (tAt ts i).2 p).2 = 0 then posGo ts beat (ts.length - (i + 1)) (i + 1) (onF (tAt ts i).1 (tAt ts (i + 1)).1 (tAt ts i).2 p).1
    else onF (tAt ts i).1 (tAt ts (i + 1)).1 (tAt ts i).2 p := by
  rw [show ts.length - i = (ts.length - (i + 1)) + 1 by omega]; rfl
/-- The last tempo that is not behind a beat. -/
structure Last (ts : List tTempo.den) (beat : Fr) (K : Nat) : Prop where
  lt : K < ts.length
  le : cmpB (tAt ts K).1 beat ≤ 0
  gt : K + 1 = ts.length ∨ 0 < cmpB (tAt ts (K + 1)).1 beat
theorem posGo_at {ts : List tTempo.den} (h : Ord ts) {beat : Fr} (hb : 1 ≤ beat.2) {K : Nat} (hK : Last ts beat K) : ∀ (d i : Nat), i + d = K → (chn ts i).2 = 0 →
    posGo ts beat (ts.length - i) i (chn ts i).1 = if (chn ts K).2 = 0 then onF (tAt ts K).1 beat (tAt ts K).2 (chn ts K).1 else chn ts K
  | 0, i, hi, h0 => by
    have : i = K := by omega
    subst this
    rw [posGo_go _ _ _ _ hK.lt, if_pos hK.gt, if_pos h0]
  | d + 1, i, hi, h0 => by
    have hlt := hK.lt
    have b0 := okF_bd (goodT_ok (h i (by omega)).1).1
    have b1 := okF_bd (goodT_ok (h (i + 1) (by omega)).1).1
    have b2 := okF_bd (goodT_ok (h K hlt).1).1
    have hcmp : ¬ 0 < cmpB (tAt ts (i + 1)).1 beat := by
      rcases Nat.eq_zero_or_pos d with hd | hd
      · have : i + 1 = K := by omega
        rw [this]; have := hK.le; omega
      · have h1 := h.lt (d - 1) (i + 1) (by omega)
        rw [show i + 1 + (d - 1) + 1 = K by omega] at h1
        have := ltB_leB b1.1.1 b2.1.1 hb h1 hK.le
        omega
    have hc : chn ts (i + 1) = onF (tAt ts i).1 (tAt ts (i + 1)).1 (tAt ts i).2 (chn ts i).1 := by
      show (if (chn ts i).2 = 0 then _ else _) = _
      rw [if_pos h0]
    rw [posGo_go _ _ _ _ (by omega), if_neg (by rintro (h | h); omega; exact hcmp h), ← hc]
    by_cases h1 : (chn ts (i + 1)).2 = 0
    · rw [if_pos h1]
      exact posGo_at h hb hK d (i + 1) (by omega) h1
    · rw [if_neg h1]
      have := chn_bad (ts := ts) d (i + 1) h1
      rw [show i + 1 + d = K by omega] at this
      rw [this, if_neg h1]
theorem last_self {ts : List tTempo.den} (h : Ord ts) (k : Nat) (hk : k < ts.length) : Last ts (tAt ts k).1 k := by
  refine ⟨hk, ?_, ?_⟩
  · rw [cmpB_le]; exact Int.le_refl _
  · by_cases he : k + 1 = ts.length
    · exact .inl he
    · right
      have := h.lt 0 k (by omega)
      rw [cmpB_lt] at this
      rw [cmpB_gt]
      exact this
theorem pos_tempo {ts : List tTempo.den} (h : Ord ts) (k : Nat) (hk : k < ts.length) : posGo ts (tAt ts k).1 ts.length 0 (0, 1) = if (chn ts k).2 = 0 then ((chn ts k).1, 0) else chn ts k := by
  have g := goodT_ok (h k hk).1
  have := posGo_at h (okF_bd g.1).1.1 (last_self h k hk) k 0 (by omega) rfl
  rw [Nat.sub_zero] at this
  have e : chn ts 0 = ((0, 1), 0) := rfl
  rw [e] at this
  rw [this]
  split
  · rename_i h0
    have ho := (chn_ok h k hk).resolve_right (by omega)
    exact onF_self g.1 ho.2 g.2.2
  · rfl
def okAt (ts : List tTempo.den) (i : Nat) : Bool := goodT (tAt ts i) && (decide (i = 0 → (tAt ts i).1.1 = 0) && (decide (i = 0 ∨ cmpB (tAt ts (i - 1)).1 (tAt ts i).1 < 0) && decide ((chn ts i).2 = 0)))
def psGo (ts : List tTempo.den) : Nat → Nat → List Fr × Bool
  | 0, _ => ([], true)
  | n + 1, i => if okAt ts i = true then ((chn ts i).1 :: (psGo ts n (i + 1)).1, (psGo ts n (i + 1)).2) else ([], false)
theorem psGo_go (ts : List tTempo.den) (i : Nat) (h : i < ts.length) : psGo ts (ts.length - i) i = if okAt ts i = true then ((chn ts i).1 :: (psGo ts (ts.length - (i + 1)) (i + 1)).1, (psGo ts (ts.length - (i + 1)) (i + 1)).2) else ([], false) := by
  rw [show ts.length - i = (ts.length - (i + 1)) + 1 by omega]; rfl
theorem psGo_true (ts : List tTempo.den) : ∀ n i : Nat, (psGo ts n i).2 = true ↔ ∀ k, i ≤ k → k < i + n → okAt ts k = true
  | 0, i => by simp [psGo]; omega
  | n + 1, i => by
    have ih := psGo_true ts n (i + 1)
    unfold psGo
    by_cases h : okAt ts i = true
    · rw [if_pos h]
      simp only [ih]
      constructor
      · intro g k h1 h2
        by_cases hk : k = i
        · rw [hk]; exact h
        · exact g k (by omega) (by omega)
      · intro g k h1 h2
        exact g k (by omega) (by omega)
    · rw [if_neg h]
      simp only [Bool.false_eq_true, false_iff]
      intro g
      exact h (g i (Nat.le_refl _) (by omega))
theorem psGo_len (ts : List tTempo.den) : ∀ n i : Nat, (psGo ts n i).1.length ≤ n
  | 0, _ => Nat.le_refl _
  | n + 1, i => by
    have := psGo_len ts n (i + 1)
    unfold psGo
    split <;> simp <;> omega
theorem psGo_get (ts : List tTempo.den) : ∀ (n i : Nat), (psGo ts n i).2 = true → (psGo ts n i).1.length = n ∧ ∀ k, k < n → (psGo ts n i).1.getD k (0, 0) = (chn ts (i + k)).1
  | 0, i, _ => ⟨rfl, by omega⟩
  | n + 1, i, h => by
    unfold psGo at h ⊢
    split at h
    · rename_i ho
      obtain ⟨h1, h2⟩ := psGo_get ts n (i + 1) h
      rw [if_pos ho]
      refine ⟨by simp [h1], fun k hk => ?_⟩
      cases k with
      | zero => rfl
      | succ k =>
        have := h2 k (by omega)
        rw [show i + 1 + k = i + (k + 1) by omega] at this
        simpa using this
    · simp at h
/-- A valid tempo map. -/
def tmapF (ts : List tTempo.den) : Bool := decide (1 ≤ ts.length ∧ ts.length ≤ 8) && (psGo ts ts.length 0).2
theorem tmap_spec {ts : List tTempo.den} (h : tmapF ts = true) : (1 ≤ ts.length ∧ ts.length ≤ 8) ∧ (psGo ts ts.length 0).2 = true ∧ Ord ts ∧ (∀ k, k < ts.length → (chn ts k).2 = 0) ∧ (tAt ts 0).1.1 = 0 := by
  simp only [tmapF, Bool.and_eq_true, decide_eq_true_eq] at h
  have h2 := (psGo_true ts ts.length 0).1 h.2
  simp only [okAt, Bool.and_eq_true, decide_eq_true_eq] at h2
  refine ⟨h.1, h.2, fun i hi => ?_, fun k hk => (h2 k (by omega) (by omega)).2.2.2, (h2 0 (by omega) (by omega)).2.1 rfl⟩
  have := h2 i (by omega) (by omega)
  exact ⟨this.1, this.2.2.1⟩
/-- The other way to say it: in order, and all positions, each from the start. -/
def ordGo (ts : List tTempo.den) : Nat → Nat → Bool
  | 0, _ => true
  | n + 1, i => goodT (tAt ts i) && (decide (i = 0 ∨ cmpB (tAt ts (i - 1)).1 (tAt ts i).1 < 0) && ordGo ts n (i + 1))
theorem ordGo_go (ts : List tTempo.den) (i : Nat) (h : i < ts.length) : ordGo ts (ts.length - i) i = (goodT (tAt ts i) && (decide (i = 0 ∨ cmpB (tAt ts (i - 1)).1 (tAt ts i).1 < 0) && ordGo ts (ts.length - (i + 1)) (i + 1))) := by
  rw [show ts.length - i = (ts.length - (i + 1)) + 1 by omega]; rfl
def posAll (ts : List tTempo.den) : Nat → Nat → Bool
  | 0, _ => true
  | n + 1, i => decide ((posGo ts (tAt ts i).1 ts.length 0 (0, 1)).2 = 0) && posAll ts n (i + 1)
theorem posAll_go (ts : List tTempo.den) (i : Nat) (h : i < ts.length) : posAll ts (ts.length - i) i = (decide ((posGo ts (tAt ts i).1 ts.length 0 (0, 1)).2 = 0) && posAll ts (ts.length - (i + 1)) (i + 1)) := by
  rw [show ts.length - i = (ts.length - (i + 1)) + 1 by omega]; rfl
theorem ordGo_true (ts : List tTempo.den) : ∀ n i : Nat, ordGo ts n i = true ↔ ∀ k, i ≤ k → k < i + n → goodT (tAt ts k) = true ∧ (k = 0 ∨ cmpB (tAt ts (k - 1)).1 (tAt ts k).1 < 0)
  | 0, i => by simp [ordGo]; omega
  | n + 1, i => by
    have ih := ordGo_true ts n (i + 1)
    simp only [ordGo, Bool.and_eq_true, decide_eq_true_eq, ih]
    constructor
    · rintro ⟨g1, g2, g3⟩ k h1 h2
      by_cases hk : k = i
      · rw [hk]; exact ⟨g1, g2⟩
      · exact g3 k (by omega) (by omega)
    · intro g
      exact ⟨(g i (Nat.le_refl _) (by omega)).1, (g i (Nat.le_refl _) (by omega)).2, fun k h1 h2 => g k (by omega) (by omega)⟩
theorem posAll_true (ts : List tTempo.den) : ∀ n i : Nat, posAll ts n i = true ↔ ∀ k, i ≤ k → k < i + n → (posGo ts (tAt ts k).1 ts.length 0 (0, 1)).2 = 0
  | 0, i => by simp [posAll]; omega
  | n + 1, i => by
    have ih := posAll_true ts n (i + 1)
    simp only [posAll, Bool.and_eq_true, decide_eq_true_eq, ih]
    constructor
    · rintro ⟨g1, g3⟩ k h1 h2
      by_cases hk : k = i
      · rw [hk]; exact g1
      · exact g3 k (by omega) (by omega)
    · intro g
      exact ⟨g i (Nat.le_refl _) (by omega), fun k h1 h2 => g k (by omega) (by omega)⟩
theorem okF_zero {d : Int} (h : okF 0 d = true) : d = 1 := by
  have hb := okF_bd h
  simp only [okF, Bool.and_eq_true, inB_iff, beq_iff_eq] at h
  have : (Int.gcd 0 d : Int) = d := by simp; omega
  have h2 : (Int.gcd 0 d : Int) = 1 := h.2.2
  omega
theorem tmap_iff (ts : List tTempo.den) (h : 1 ≤ ts.length ∧ ts.length ≤ 8) : tmapF ts = (decide ((tAt ts 0).1.1 = 0 ∧ (tAt ts 0).1.2 = 1) && (ordGo ts ts.length 0 && posAll ts ts.length 0)) := by
  rw [Bool.eq_iff_iff]
  simp only [Bool.and_eq_true, decide_eq_true_eq]
  constructor
  · intro g
    obtain ⟨_, _, h3, h4, h5⟩ := tmap_spec g
    refine ⟨⟨h5, ?_⟩, (ordGo_true ts _ 0).2 fun k _ hk => h3 k (by omega), (posAll_true ts _ 0).2 fun k _ hk => ?_⟩
    · have := (goodT_ok (h3 0 (by omega)).1).1
      rw [h5] at this
      exact okF_zero this
    · rw [pos_tempo h3 k (by omega), if_pos (h4 k (by omega))]
  · rintro ⟨⟨g1, _⟩, g2, g3⟩
    have g2 := (ordGo_true ts _ 0).1 g2
    have g3 := (posAll_true ts _ 0).1 g3
    have ho : Ord ts := fun i hi => g2 i (by omega) (by omega)
    simp only [tmapF, Bool.and_eq_true, decide_eq_true_eq]
    refine ⟨h, (psGo_true ts _ 0).2 fun k _ hk => ?_⟩
    have hp := g3 k (by omega) hk
    rw [pos_tempo ho k (by omega)] at hp
    simp only [okAt, Bool.and_eq_true, decide_eq_true_eq]
    refine ⟨(ho k (by omega)).1, fun hk => by rw [hk]; exact g1, (ho k (by omega)).2, ?_⟩
    split at hp
    · rename_i hc; exact hc
    · exact hp
/-! ### the last tempo that is not behind a beat -/
def idxGo (ts : List tTempo.den) (beat : Fr) : Nat → Nat → Nat → Nat
  | 0, _, k => k
  | n + 1, i, k => idxGo ts beat n (i + 1) (if cmpB (tAt ts i).1 beat ≤ 0 then i else k)
theorem idxGo_go (ts : List tTempo.den) (beat : Fr) (i k : Nat) (h : i < ts.length) : idxGo ts beat (ts.length - i) i k = idxGo ts beat (ts.length - (i + 1)) (i + 1) (if cmpB (tAt ts i).1 beat ≤ 0 then i else k) := by
  rw [show ts.length - i = (ts.length - (i + 1)) + 1 by omega]; rfl
theorem idxGo_lt (ts : List tTempo.den) (beat : Fr) : ∀ n i k : Nat, i + n = ts.length → k < ts.length → idxGo ts beat n i k < ts.length
  | 0, _, _, _, h => h
  | n + 1, i, k, h, hk => by
    unfold idxGo
    refine idxGo_lt ts beat n (i + 1) _ (by omega) ?_
    split <;> omega
theorem idxGo_last {ts : List tTempo.den} (h : Ord ts) {beat : Fr} (hb : 1 ≤ beat.2) : ∀ (n i : Nat), 0 < i → i + n = ts.length → cmpB (tAt ts (i - 1)).1 beat ≤ 0 → Last ts beat (idxGo ts beat n i (i - 1))
  | 0, i, h0, hi, hc => ⟨by unfold idxGo; omega, hc, by unfold idxGo; left; omega⟩
  | n + 1, i, h0, hi, hc => by
    unfold idxGo
    split
    · rename_i h1
      have := idxGo_last h hb n (i + 1) (by omega) (by omega) (by simpa using h1)
      simpa using this
    · rename_i h1
      -- all later ones are behind
      have key : ∀ n j, j + n = ts.length → i ≤ j → idxGo ts beat n j (i - 1) = i - 1 := by
        intro n
        induction n with
        | zero => intro j _ _; rfl
        | succ n ih =>
          intro j hj hij
          unfold idxGo
          rw [if_neg, ih (j + 1) (by omega) (by omega)]
          intro hle
          by_cases he : j = i
          · rw [he] at hle; exact h1 hle
          · have hlt := h.lt (j - i - 1) i (by omega)
            rw [show i + (j - i - 1) + 1 = j by omega] at hlt
            have b0 := okF_bd (goodT_ok (h i (by omega)).1).1
            have b1 := okF_bd (goodT_ok (h j (by omega)).1).1
            have := ltB_leB b0.1.1 b1.1.1 hb hlt hle
            omega
      rw [key n (i + 1) (by omega) (by omega)]
      refine ⟨by omega, hc, .inr ?_⟩
      rw [show i - 1 + 1 = i by omega]
      omega
def idxF (ts : List tTempo.den) (beat : Fr) : Nat := idxGo ts beat ts.length 0 0
theorem idxF_last {ts : List tTempo.den} (h : Ord ts) (h0 : 1 ≤ ts.length) (hz : (tAt ts 0).1.1 = 0) {beat : Fr} (hb : 1 ≤ beat.2) (hb0 : 0 ≤ beat.1) : Last ts beat (idxF ts beat) := by
  have hd : (tAt ts 0).1.2 = 1 := by
    have := (goodT_ok (h 0 (by omega)).1).1
    rw [hz] at this
    exact okF_zero this
  have hle : cmpB (tAt ts 0).1 beat ≤ 0 := by
    rw [cmpB_le, hz, hd]; omega
  have e := idxGo_go ts beat 0 0 (by omega)
  rw [Nat.sub_zero, if_pos hle] at e
  unfold idxF
  rw [e]
  exact idxGo_last h hb (ts.length - 1) 1 (by omega) (by omega) hle
def smpGo (ts : List tTempo.den) (beat : Fr) : Nat → Nat → Int → Int
  | 0, _, o => o
  | n + 1, i, o => smpGo ts beat n (i + 1) (if cmpB (tAt ts i).1 beat ≤ 0 then (tAt ts i).2 else o)
theorem smpGo_go (ts : List tTempo.den) (beat : Fr) (i : Nat) (o : Int) (h : i < ts.length) : smpGo ts beat (ts.length - i) i o = smpGo ts beat (ts.length - (i + 1)) (i + 1) (if cmpB (tAt ts i).1 beat ≤ 0 then (tAt ts i).2 else o) := by
  rw [show ts.length - i = (ts.length - (i + 1)) + 1 by omega]; rfl
theorem smpGo_idx (ts : List tTempo.den) (beat : Fr) : ∀ n i k : Nat, smpGo ts beat n i (tAt ts k).2 = (tAt ts (idxGo ts beat n i k)).2
  | 0, _, _ => rfl
  | n + 1, i, k => by
    unfold smpGo idxGo
    rw [← smpGo_idx ts beat n (i + 1) _]
    congr 1
    split <;> rfl
theorem smp_idx {ts : List tTempo.den} (h : Ord ts) (h0 : 1 ≤ ts.length) (hz : (tAt ts 0).1.1 = 0) {beat : Fr} (hb : 1 ≤ beat.2) (hb0 : 0 ≤ beat.1) : smpGo ts beat ts.length 0 0 = (tAt ts (idxF ts beat)).2 := by
  have hd : (tAt ts 0).1.2 = 1 := by
    have := (goodT_ok (h 0 (by omega)).1).1
    rw [hz] at this
    exact okF_zero this
  have hle : cmpB (tAt ts 0).1 beat ≤ 0 := by
    rw [cmpB_le, hz, hd]; omega
  have e := idxGo_go ts beat 0 0 (by omega)
  have e2 := smpGo_go ts beat 0 0 (by omega)
  rw [Nat.sub_zero, if_pos hle] at e e2
  unfold idxF
  rw [e, e2]
  exact smpGo_idx ts beat _ 1 0
/-- The position of a beat, both ways. -/
theorem pos_beat {ts : List tTempo.den} (h : tmapF ts = true) {beat : Fr} (hb : 1 ≤ beat.2) (hb0 : 0 ≤ beat.1) : posGo ts beat ts.length 0 (0, 1) = onF (tAt ts (idxF ts beat)).1 beat (tAt ts (idxF ts beat)).2 ((psGo ts ts.length 0).1.getD (idxF ts beat) (0, 0)) := by
  obtain ⟨h1, h2, h3, h4, h5⟩ := tmap_spec h
  have hL := idxF_last h3 h1.1 h5 hb hb0
  have := posGo_at h3 hb hL (idxF ts beat) 0 (by omega) rfl
  rw [Nat.sub_zero, if_pos (h4 _ hL.lt)] at this
  have e := (psGo_get ts ts.length 0 h2).2 (idxF ts beat) hL.lt
  rw [Nat.zero_add] at e
  rw [e]
  exact this
end Go.Proofs.Ytemlpimibhijoaa
