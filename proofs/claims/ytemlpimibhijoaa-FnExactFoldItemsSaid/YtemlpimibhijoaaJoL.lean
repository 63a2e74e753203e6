/- The plain law of folded items: the longest repetition, found in two ways. Conditions: as each says. -/
import Derived.Test.YtemlpimibhijoaaHcL
set_option linter.unusedSimpArgs false
set_option linter.unusedVariables false
namespace Go.Proofs.Ytemlpimibhijoaa
open Go.RowKit Sx
def iA (l : Its) (i : Nat) : It := l.getD i tItem.zero
/-- From a place on, each item is the one p places before. -/
def repGo (l : Its) (p : Nat) : Nat → Nat → Bool
  | 0, _ => true
  | k + 1, i => decide (iA l i = iA l (i - p)) && repGo l p k (i + 1)
def repB (l : Its) (n p : Nat) : Bool := decide (n * p ≤ l.length) && repGo l p (n * p - p) p
theorem repGo_iff (l : Its) (p : Nat) : ∀ k i, repGo l p k i = true ↔ ∀ j, i ≤ j → j < i + k → iA l j = iA l (j - p)
  | 0, i => by
    simp only [repGo, true_iff]
    intro j h1 h2; omega
  | k + 1, i => by
    simp only [repGo, Bool.and_eq_true, decide_eq_true_eq, repGo_iff l p k (i + 1)]
    constructor
    · rintro ⟨h1, h2⟩ j hj hk
      by_cases h : j = i
      · subst h; exact h1
      · exact h2 j (by omega) (by omega)
    · intro h
      exact ⟨h i (Nat.le_refl _) (by omega), fun j h1 h2 => h j (by omega) (by omega)⟩
theorem repB_iff (l : Its) (n p : Nat) (hn : 1 ≤ n) : repB l n p = true ↔ n * p ≤ l.length ∧ ∀ j, p ≤ j → j < n * p → iA l j = iA l (j - p) := by
  have h : p ≤ n * p := Nat.le_mul_of_pos_left p hn
  simp only [repB, Bool.and_eq_true, decide_eq_true_eq, repGo_iff]
  rw [show p + (n * p - p) = n * p by omega]
theorem repGo_step (l : Its) (p i m : Nat) (h : i < m) : repGo l p (m - i) i = (decide (iA l i = iA l (i - p)) && repGo l p (m - (i + 1)) (i + 1)) := by
  rw [show m - i = (m - (i + 1)) + 1 by omega]; rfl
/-- The items from s on are the first ones. -/
def blkGo (l : Its) (s : Nat) : Nat → Nat → Bool
  | 0, _ => true
  | c + 1, k => decide (iA l k = iA l (s + k)) && blkGo l s c (k + 1)
def blkB (l : Its) (n p : Nat) : Bool := blkGo l (n * p) p 0
theorem blkGo_iff (l : Its) (s : Nat) : ∀ c k, blkGo l s c k = true ↔ ∀ j, k ≤ j → j < k + c → iA l j = iA l (s + j)
  | 0, k => by
    simp only [blkGo, true_iff]
    intro j h1 h2; omega
  | c + 1, k => by
    simp only [blkGo, Bool.and_eq_true, decide_eq_true_eq, blkGo_iff l s c (k + 1)]
    constructor
    · rintro ⟨h1, h2⟩ j hj hk
      by_cases h : j = k
      · subst h; exact h1
      · exact h2 j (by omega) (by omega)
    · intro h
      exact ⟨h k (Nat.le_refl _) (by omega), fun j h1 h2 => h j (by omega) (by omega)⟩
theorem blkGo_step (l : Its) (s k m : Nat) (h : k < m) : blkGo l s (m - k) k = (decide (iA l k = iA l (s + k)) && blkGo l s (m - (k + 1)) (k + 1)) := by
  rw [show m - k = (m - (k + 1)) + 1 by omega]; rfl
theorem blkB_iff (l : Its) (n p : Nat) : blkB l n p = true ↔ ∀ k, k < p → iA l k = iA l (n * p + k) := by
  simp only [blkB, blkGo_iff, Nat.zero_add, Nat.zero_le, true_implies]
theorem per_blk {l : Its} {n p : Nat} (h : ∀ j, p ≤ j → j < n * p → iA l j = iA l (j - p)) : ∀ m, m < n → ∀ k, k < p → iA l (m * p + k) = iA l k
  | 0, _, k, _ => by rw [Nat.zero_mul, Nat.zero_add]
  | m + 1, hm, k, hk => by
    have h1 : (m + 1) * p + p ≤ n * p := by rw [← Nat.succ_mul]; exact Nat.mul_le_mul_right p hm
    have h2 := h ((m + 1) * p + k) (by rw [Nat.succ_mul]; omega) (by omega)
    rw [h2, show (m + 1) * p + k - p = m * p + k by rw [Nat.succ_mul]; omega]
    exact per_blk h m (by omega) k hk
theorem rep_succ (l : Its) (n p : Nat) (hn : 1 ≤ n) (hp : 1 ≤ p) : repB l (n + 1) p = true ↔ repB l n p = true ∧ ((n + 1) * p ≤ l.length ∧ blkB l n p = true) := by
  rw [repB_iff l (n + 1) p (by omega), repB_iff l n p hn, blkB_iff]
  have hs : (n + 1) * p = n * p + p := Nat.succ_mul n p
  constructor
  · rintro ⟨h1, h2⟩
    refine ⟨⟨by omega, fun j h3 h4 => h2 j h3 (by omega)⟩, h1, fun k hk => ?_⟩
    exact (per_blk h2 n (by omega) k hk).symm
  · rintro ⟨⟨_, h2⟩, h3, h4⟩
    refine ⟨h3, fun j h5 h6 => ?_⟩
    by_cases h7 : j < n * p
    · exact h2 j h5 h7
    · obtain ⟨k, rfl⟩ : ∃ k, j = n * p + k := ⟨j - n * p, by omega⟩
      have hk : k < p := by omega
      rw [← h4 k hk]
      have h8 := per_blk h2 (n - 1) (by omega) k hk
      have h9 : n * p = (n - 1) * p + p := by rw [← Nat.succ_mul]; congr 1; omega
      rw [show n * p + k - p = (n - 1) * p + k by omega]
      exact h8.symm
/-- How often the first p items stand there one after the other, from n on. -/
def repsGo (l : Its) (p : Nat) : Nat → Nat → Nat
  | 0, n => n
  | f + 1, n => if (n + 1) * p ≤ l.length ∧ blkB l n p = true then repsGo l p f (n + 1) else n
def repsN (l : Its) (p : Nat) : Nat := repsGo l p 7 1
theorem repsGo_le (l : Its) (p : Nat) : ∀ f n, n ≤ repsGo l p f n ∧ repsGo l p f n ≤ n + f
  | 0, n => ⟨Nat.le_refl _, Nat.le_refl _⟩
  | f + 1, n => by
    unfold repsGo
    split
    · have := repsGo_le l p f (n + 1); omega
    · omega
theorem repsGo_iff (l : Its) (p : Nat) (hp : 1 ≤ p) : ∀ f n, 1 ≤ n → repB l n p = true → ∀ m, n ≤ m → m ≤ n + f → (repB l m p = true ↔ m ≤ repsGo l p f n)
  | 0, n, _, h, m, h1, h2 => by
    have : m = n := by omega
    subst this
    simp [repsGo, h]
  | f + 1, n, hn, h, m, h1, h2 => by
    unfold repsGo
    split
    · rename_i hc
      have h3 := (rep_succ l n p hn hp).2 ⟨h, hc⟩
      by_cases hm : m = n
      · subst hm
        have := (repsGo_le l p f (m + 1)).1
        exact ⟨fun _ => by omega, fun _ => h⟩
      · exact repsGo_iff l p hp f (n + 1) (by omega) h3 m (by omega) (by omega)
    · rename_i hc
      by_cases hm : m = n
      · subst hm; exact ⟨fun _ => Nat.le_refl _, fun _ => h⟩
      · have down : ∀ j, n + 1 ≤ j → repB l j p = true → False := fun j => by
          induction j with
          | zero => intro h _; omega
          | succ j ih =>
            intro h5 h6
            have h7 := (rep_succ l j p (by omega) hp).1 h6
            by_cases h8 : j = n
            · subst h8; exact hc h7.2
            · exact ih (by omega) h7.1
        exact ⟨fun h6 => (down m (by omega) h6).elim, fun h6 => by omega⟩
theorem reps_iff (l : Its) (p : Nat) (hp : 1 ≤ p) (hl : p ≤ l.length) (m : Nat) (h1 : 1 ≤ m) (h8 : m ≤ 8) : repB l m p = true ↔ m ≤ repsN l p := by
  refine repsGo_iff l p hp 7 1 (Nat.le_refl _) ?_ m h1 (by omega)
  rw [repB_iff l 1 p (Nat.le_refl _)]
  exact ⟨by omega, fun j h1 h2 => by omega⟩
/-- The program: for one length, all numbers of repetitions. -/
def bestN (l : Its) (p : Nat) : Nat → Nat → Nat × Nat → Nat × Nat
  | 0, _, e => e
  | c + 1, n, e => bestN l p c (n + 1) (if p + 1 < n * p ∧ e.1 * e.2 < n * p ∧ repB l n p = true then (n, p) else e)
theorem bestN_eq (l : Its) (p : Nat) (hp : 1 ≤ p) (hl : p ≤ l.length) : ∀ c n (e : Nat × Nat), 1 ≤ n → n + c = 9 → bestN l p c n e = if n ≤ repsN l p ∧ p + 1 < repsN l p * p ∧ e.1 * e.2 < repsN l p * p then (repsN l p, p) else e
  | 0, n, e, _, h => by
    have h2 : repsN l p ≤ 8 := (repsGo_le l p 7 1).2
    simp only [bestN]
    rw [if_neg (by omega)]
  | c + 1, n, e, hn, h => by
    simp only [bestN]
    rw [bestN_eq l p hp hl c (n + 1) _ (by omega) (by omega)]
    have h3 := reps_iff l p hp hl n hn (by omega)
    by_cases hr : n ≤ repsN l p
    · have hm : n * p ≤ repsN l p * p := Nat.mul_le_mul_right p hr
      by_cases hc : p + 1 < n * p ∧ e.1 * e.2 < n * p
      · have e1 : (if p + 1 < n * p ∧ e.1 * e.2 < n * p ∧ repB l n p = true then (n, p) else e) = (n, p) := if_pos ⟨hc.1, hc.2, h3.2 hr⟩
        rw [e1]
        by_cases he : n = repsN l p
        · rw [if_neg (by omega), ← he, if_pos ⟨Nat.le_refl _, hc.1, hc.2⟩]
        · have hm2 : n * p < repsN l p * p := Nat.mul_lt_mul_of_pos_right (by omega) (by omega)
          rw [if_pos ⟨by omega, by omega, hm2⟩, if_pos ⟨hr, by omega, by omega⟩]
      · have e1 : (if p + 1 < n * p ∧ e.1 * e.2 < n * p ∧ repB l n p = true then (n, p) else e) = e := if_neg (fun h => hc ⟨h.1, h.2.1⟩)
        rw [e1]
        by_cases he : n = repsN l p
        · rw [if_neg (by omega), if_neg (fun h => hc (by rw [he]; exact h.2))]
        · by_cases hx : p + 1 < repsN l p * p ∧ e.1 * e.2 < repsN l p * p
          · rw [if_pos ⟨by omega, hx⟩, if_pos ⟨hr, hx⟩]
          · rw [if_neg (fun h => hx h.2), if_neg (fun h => hx h.2)]
    · have e1 : (if p + 1 < n * p ∧ e.1 * e.2 < n * p ∧ repB l n p = true then (n, p) else e) = e := if_neg (fun h => hr (h3.1 h.2.2))
      rw [e1, if_neg (fun h => absurd h.1 (by omega)), if_neg (fun h => absurd h.1 (by omega))]
theorem bestN_bd (l : Its) (p : Nat) : ∀ c n (e : Nat × Nat), n + c ≤ 9 → p ≤ 80 → e.1 ≤ 8 → e.2 ≤ 80 → (bestN l p c n e).1 ≤ 8 ∧ (bestN l p c n e).2 ≤ 80
  | 0, n, e, _, _, h1, h2 => ⟨h1, h2⟩
  | c + 1, n, e, h, hp, h1, h2 => by
    simp only [bestN]
    split
    · exact bestN_bd l p c (n + 1) (n, p) (by omega) hp (by simp only; omega) hp
    · exact bestN_bd l p c (n + 1) e (by omega) hp h1 h2
/-- All lengths, one after the other. -/
def bestP (l : Its) : Nat → Nat → Nat × Nat → Nat × Nat
  | 0, _, e => e
  | c + 1, p, e => bestP l c (p + 1) (bestN l p 7 2 e)
def bestI (l : Its) : Nat × Nat := bestP l (l.length / 2) 1 (0, 0)
/-- The reference: the number of repetitions of a length. -/
def bestQ (l : Its) : Nat → Nat → Nat × Nat → Nat × Nat
  | 0, _, e => e
  | c + 1, p, e => bestQ l c (p + 1) (if 1 < repsN l p ∧ p + 1 < repsN l p * p ∧ e.1 * e.2 < repsN l p * p then (repsN l p, p) else e)
theorem best_same (l : Its) : ∀ c p e, 1 ≤ p → 2 * (p + c) ≤ l.length + 2 → bestQ l c p e = bestP l c p e
  | 0, _, _, _, _ => rfl
  | c + 1, p, e, hp, h => by
    simp only [bestQ, bestP]
    rw [bestN_eq l p hp (by omega) 7 2 e (by omega) (by omega)]
    exact best_same l c (p + 1) _ (by omega) (by omega)
theorem bestQ_I (l : Its) : bestQ l (l.length / 2) 1 (0, 0) = bestI l := best_same l _ 1 _ (Nat.le_refl _) (by omega)
/-- What is found stands there. -/
def bOk (l : Its) (e : Nat × Nat) : Prop := e = (0, 0) ∨ ((2 ≤ e.1 ∧ e.1 ≤ 8) ∧ 1 ≤ e.2 ∧ e.1 * e.2 ≤ l.length)
theorem bestQ_ok (l : Its) : ∀ c p e, 1 ≤ p → 2 * (p + c) ≤ l.length + 2 → bOk l e → bOk l (bestQ l c p e)
  | 0, _, _, _, _, h => h
  | c + 1, p, e, hp, h, ho => by
    simp only [bestQ]
    refine bestQ_ok l c (p + 1) _ (by omega) (by omega) ?_
    split
    · rename_i hc
      have h2 := repsGo_le l p 7 1
      have h3 : repsN l p ≤ 8 := h2.2
      have h4 := (reps_iff l p hp (by omega) (repsN l p) (by omega) h3).2 (Nat.le_refl _)
      rw [repB_iff l _ p (by omega)] at h4
      exact .inr ⟨⟨by show 2 ≤ repsN l p; omega, h3⟩, hp, h4.1⟩
    · exact ho
theorem best_ok (l : Its) : bOk l (bestI l) := by
  rw [← bestQ_I]
  exact bestQ_ok l _ 1 _ (Nat.le_refl _) (by omega) (.inl rfl)
/-- One step: the items put out, and how many are taken. -/
def foldS (l : Its) : Its × Nat := if (bestI l).1 = 0 then (l.take 1, 1) else ((4, [], (0, 0), ((bestI l).1 : Int), (0, 0), ((bestI l).2 : Int)) :: l.take (bestI l).2, (bestI l).1 * (bestI l).2)
def foldGo : Nat → Its → Its
  | 0, _ => []
  | f + 1, l => if l = [] then [] else (foldS l).1 ++ foldGo f (l.drop (foldS l).2)
theorem foldS_pos (l : Its) (h : l ≠ []) : 1 ≤ (foldS l).2 ∧ (foldS l).2 ≤ l.length ∧ (foldS l).1.length ≤ 2 * (foldS l).2 := by
  have hl : 1 ≤ l.length := List.length_pos_iff.2 h
  have hb := best_ok l
  unfold foldS
  split
  · simp; omega
  · rename_i h0
    rcases hb with e | ⟨⟨h1, h2⟩, h3, h4⟩
    · rw [e] at h0; simp at h0
    · have h5 : 2 * (bestI l).2 ≤ (bestI l).1 * (bestI l).2 := Nat.mul_le_mul_right _ h1
      simp
      omega
theorem foldGo_fuel : ∀ (f g : Nat) (l : Its), l.length ≤ f → l.length ≤ g → foldGo f l = foldGo g l
  | 0, g, l, h, _ => by
    have : l = [] := List.eq_nil_of_length_eq_zero (by omega)
    subst this; cases g <;> simp [foldGo]
  | f + 1, 0, l, _, h => by
    have : l = [] := List.eq_nil_of_length_eq_zero (by omega)
    subst this; simp [foldGo]
  | f + 1, g + 1, l, h1, h2 => by
    simp only [foldGo]
    split
    · rfl
    · rename_i h0
      have hp := foldS_pos l h0
      rw [foldGo_fuel f g (l.drop (foldS l).2) (by simp; omega) (by simp; omega)]
def foldL (l : Its) : Its := foldGo l.length l
theorem foldL_step (l : Its) (h : l ≠ []) : foldL l = (foldS l).1 ++ foldL (l.drop (foldS l).2) := by
  have hl : 1 ≤ l.length := List.length_pos_iff.2 h
  have hp := foldS_pos l h
  unfold foldL
  obtain ⟨n, hn⟩ : ∃ n, l.length = n + 1 := ⟨l.length - 1, by omega⟩
  rw [hn]
  simp only [foldGo]
  rw [if_neg h, foldGo_fuel n (l.drop (foldS l).2).length _ (by simp; omega) (Nat.le_refl _)]
theorem foldL_nil : foldL [] = [] := rfl
theorem foldL_len : ∀ (n : Nat) (l : Its), l.length ≤ n → (foldL l).length ≤ 2 * l.length
  | 0, l, h => by
    have : l = [] := List.eq_nil_of_length_eq_zero (by omega)
    subst this; simp [foldL, foldGo]
  | n + 1, l, h => by
    by_cases h0 : l = []
    · subst h0; simp [foldL, foldGo]
    · have hp := foldS_pos l h0
      have := foldL_len n (l.drop (foldS l).2) (by simp; omega)
      rw [foldL_step l h0, List.length_append]
      simp only [List.length_drop] at this
      omega
/-- The first group's place, or -1. -/
def grpIx (l : Its) : Nat → Nat → Int
  | 0, _ => -1
  | c + 1, i => if grpB (iA l i) = true then (i : Int) else grpIx l c (i + 1)
theorem grpIx_step (l : Its) (i : Nat) (h : i < l.length) : grpIx l (l.length - i) i = if grpB (iA l i) = true then (i : Int) else grpIx l (l.length - (i + 1)) (i + 1) := by
  rw [show l.length - i = (l.length - (i + 1)) + 1 by omega]; rfl
theorem grpIx_bd (l : Its) : ∀ c i, grpIx l c i = -1 ∨ 0 ≤ grpIx l c i
  | 0, _ => .inl rfl
  | c + 1, i => by
    unfold grpIx
    split
    · right; omega
    · exact grpIx_bd l c (i + 1)
theorem grpIx_drop (l : Its) : ∀ c i, c + i = l.length → decide (0 ≤ grpIx l c i) = (l.drop i).any grpB
  | 0, i, h => by rw [List.drop_eq_nil_of_le (by omega)]; rfl
  | c + 1, i, h => by
    have hi : i < l.length := by omega
    rw [List.drop_eq_getElem_cons hi, List.any_cons, ← grpIx_drop l c (i + 1) (by omega)]
    have e : iA l i = l[i] := by rw [iA, getD_lt _ _ _ hi]
    have e2 : grpIx l (c + 1) i = if grpB (iA l i) = true then (i : Int) else grpIx l c (i + 1) := rfl
    rw [e2, e]
    cases grpB l[i]
    · simp
    · simp
theorem grpIx_any (l : Its) : decide (0 ≤ grpIx l l.length 0) = l.any grpB := grpIx_drop l l.length 0 (by omega)
theorem flat_plainI : ∀ (l : Its), l.any grpB = false → flatR l = (l, true)
  | [], _ => rfl
  | x :: t, h => by
    simp only [List.any_cons, Bool.or_eq_false_iff] at h
    have e2 : flatR (x :: t) = (x :: (flatR t).1, (flatR t).2) := by unfold flatR; rw [itR_cons, if_neg (by rw [h.1]; simp)]
    rw [e2, flat_plainI t h.2]
end Go.Proofs.Ytemlpimibhijoaa
