/- Plain laws: a merge in place; blocks that are merged. Conditions: as each says. -/
import Derived.Test.YtjgjcggecikdpaaSrtP
set_option linter.unusedSimpArgs false
set_option linter.unusedVariables false
namespace Go.Proofs.Ytjgjcggecikdpaa
open Go.RowKit Sx
section
variable {α : Type} {ok : α → Prop} {lt : α → α → Bool}
theorem mem_win {l : List α} {a b : Nat} {x : α} (z : α) (hb : b ≤ l.length) (h : x ∈ win l a b) : ∃ i, a ≤ i ∧ i < b ∧ l.getD i z = x := by
  obtain ⟨k, hk, rfl⟩ := List.getElem_of_mem h
  have hl : (win l a b).length ≤ b - a := by unfold win; rw [List.length_drop, List.length_take]; omega
  refine ⟨a + k, by omega, by omega, ?_⟩
  rw [← win_get z hb (by omega), getD_lt _ _ _ hk]
theorem win_le (H : Swo ok lt) {l : List α} {a b i j : Nat} (z : α) (ho : AllOk ok l) (h : Srt lt (win l a b)) (h1 : a ≤ i) (h2 : i ≤ j) (h3 : j < b) (hb : b ≤ l.length) : lt (l.getD j z) (l.getD i z) = false := by
  rcases Nat.lt_or_ge i j with hij | hij
  · exact win_srt z h h1 hij h3 hb
  · rw [show j = i by omega]; exact H.irr (allOk_get ho z (by omega))
theorem sym_one (H : Swo ok lt) {l : List α} {a b i : Nat} (z : α) (h1 : a + 1 ≤ b) (h2 : b ≤ l.length) (ho : AllOk ok l) (hi : a + 1 ≤ i ∧ i ≤ b) (q1 : ∀ c, a + 1 ≤ c → c < i → lt (l.getD c z) (l.getD a z) = true) (q2 : i < b → lt (l.getD i z) (l.getD a z) = false) (hs : Srt lt (win l (a + 1) b)) :
    rotL l a (a + 1) i = srtW lt a b l := by
  have qa : ∀ y ∈ win l (a + 1) i, lt y (l.getD a z) = true := fun y hy => by
    obtain ⟨c, c1, c2, rfl⟩ := mem_win z (by omega) hy
    exact q1 c c1 c2
  have qb : ∀ y ∈ win l i b, lt y (l.getD a z) = false := fun y hy => by
    obtain ⟨c, c1, c2, rfl⟩ := mem_win z (by omega) hy
    exact H.ntrans _ (l.getD i z) _ (allOk_get ho z (by omega)) (allOk_get ho z (by omega)) (allOk_get ho z (by omega)) (win_le H z ho hs (by omega) c1 c2 h2) (q2 (by omega))
  obtain ⟨p, x, y, t', rfl, e1, e2, e3⟩ := cut3 l (a := a) (b := a + 1) (c := i) (by omega) hi.1 (by omega)
  obtain ⟨x, x', rfl, hx⟩ := cons_of_len (show x.length = 0 + 1 by omega)
  have := List.eq_nil_of_length_eq_zero hx
  subst this
  obtain ⟨w, t, rfl, e4⟩ := cut1 t' (a := b - i) (by simp at h2; omega)
  rw [show p ++ ([x] ++ (y ++ (w ++ t))) = p ++ (([x] ++ (y ++ w)) ++ t) by simp, srtW_at e1 (by simp; omega)]
  have r := rotL_at (p := p) (x := [x]) (y := y) (t := w ++ t) e1 e2 e3
  simp only [List.append_assoc] at r ⊢
  rw [r]
  have d : (p ++ ([x] ++ (y ++ (w ++ t)))).getD a z = x := getD_at e1
  have w1 : win (p ++ ([x] ++ (y ++ (w ++ t)))) (a + 1) i = y := by
    rw [← List.append_assoc]; exact win_at (by simp; omega) e3
  have w2 : win (p ++ ([x] ++ (y ++ (w ++ t)))) i b = w := by
    rw [show p ++ ([x] ++ (y ++ (w ++ t))) = (p ++ ([x] ++ y)) ++ (w ++ t) by simp]; exact win_at (by simp; omega) (by omega)
  have w3 : win (p ++ ([x] ++ (y ++ (w ++ t)))) (a + 1) b = y ++ w := by
    rw [show p ++ ([x] ++ (y ++ (w ++ t))) = (p ++ [x]) ++ ((y ++ w) ++ t) by simp]; exact win_at (by simp; omega) (by simp; omega)
  rw [w1, d] at qa
  rw [w2, d] at qb
  rw [w3] at hs
  have := ins_at qa qb
  simp only [List.singleton_append, srt]
  rw [srt_id hs, this]
  simp
theorem sym_last (H : Swo ok lt) {l : List α} {a m i : Nat} (z : α) (h1 : a ≤ m) (h2 : m + 1 ≤ l.length) (ho : AllOk ok l) (hi : a ≤ i ∧ i ≤ m) (q1 : ∀ c, a ≤ c → c < i → lt (l.getD m z) (l.getD c z) = false) (q2 : i < m → lt (l.getD m z) (l.getD i z) = true) (hs : Srt lt (win l a m)) :
    rotL l i m (m + 1) = srtW lt a (m + 1) l := by
  have qa : ∀ y ∈ win l a i, lt (l.getD m z) y = false := fun y hy => by
    obtain ⟨c, c1, c2, rfl⟩ := mem_win z (by omega) hy
    exact q1 c c1 c2
  have qb : ∀ y ∈ win l i m, lt (l.getD m z) y = true := fun y hy => by
    obtain ⟨c, c1, c2, rfl⟩ := mem_win z (by omega) hy
    exact H.lt_le (allOk_get ho z (by omega)) (allOk_get ho z (by omega)) (allOk_get ho z (by omega)) (q2 (by omega)) (win_le H z ho hs hi.1 c1 c2 (by omega))
  obtain ⟨p, x, w, t', rfl, e1, e2, e3⟩ := cut3 l (a := a) (b := i) (c := m) hi.1 hi.2 (by omega)
  obtain ⟨y, t, rfl, _⟩ := cons_of_len (show t'.length = (t'.length - 1) + 1 by simp at h2; omega)
  have r := rotL_at (p := p ++ x) (x := w) (y := [y]) (t := t) (a := i) (m := m) (b := m + 1) (by simp; omega) e3 rfl
  have s := srtW_at (lt := lt) (p := p) (w := x ++ (w ++ [y])) (t := t) (a := a) (b := m + 1) e1 (by simp; omega)
  simp only [List.append_assoc, List.cons_append, List.nil_append] at r s ⊢
  rw [r, s]
  have d : (p ++ (x ++ (w ++ y :: t))).getD m z = y := by
    rw [show p ++ (x ++ (w ++ y :: t)) = (p ++ (x ++ w)) ++ y :: t by simp]; exact getD_at (by simp; omega)
  have w1 : win (p ++ (x ++ (w ++ y :: t))) a i = x := win_at e1 e2
  have w2 : win (p ++ (x ++ (w ++ y :: t))) i m = w := by
    rw [show p ++ (x ++ (w ++ y :: t)) = (p ++ x) ++ (w ++ y :: t) by simp]; exact win_at (by simp; omega) e3
  have w3 : win (p ++ (x ++ (w ++ y :: t))) a m = x ++ w := by
    rw [show p ++ (x ++ (w ++ y :: t)) = p ++ ((x ++ w) ++ y :: t) by simp]; exact win_at e1 (by simp; omega)
  rw [w1, d] at qa
  rw [w2, d] at qb
  rw [w3] at hs
  simp only [AllOk.app, AllOk.cons] at ho
  have hs' := Srt.app.1 hs
  have g := srt_swap H (a := w) (b := [y]) (t := []) ho.2.2.1 (by simpa [AllOk] using ho.2.2.2.1) (by simp [AllOk]) (fun u hu v hv => by simp only [List.mem_singleton] at hv; subst hv; exact qb u hu)
  simp only [List.append_nil] at g
  rw [srt_pre g x]
  have : Srt lt (x ++ ([y] ++ w)) := by
    refine Srt.app.2 ⟨hs'.1, List.pairwise_cons.2 ⟨fun v hv => H.asym _ _ ho.2.2.2.1 (ho.2.2.1 v hv) (qb v hv), hs'.2.1⟩, fun u hu v hv => ?_⟩
    rcases List.mem_cons.1 hv with rfl | hv
    · exact qa u hu
    · exact hs'.2.2 u hu v hv
  rw [srt_id this]
  simp
/-- What the search of a merge finds. -/
structure Found (lt : α → α → Bool) (l : List α) (z : α) (a m b mid st : Nat) : Prop where
  bd : a ≤ st ∧ st ≤ mid ∧ st ≤ m ∧ m ≤ mid + m - st ∧ mid + m - st ≤ b ∧ mid ≤ mid + m - st
  lo : ∀ x ∈ win l a st, ∀ y ∈ win l (mid + m - st) b, lt y x = false
  hi : ∀ x ∈ win l st m, ∀ y ∈ win l m (mid + m - st), lt y x = true
theorem sym_mono (H : Swo ok lt) {l : List α} {a m b mid s0 r0 : Nat} (z : α) (h1 : a < m) (h2 : m < b) (h3 : b ≤ l.length) (ho : AllOk ok l) (s1 : Srt lt (win l a m)) (s2 : Srt lt (win l m b)) (hm : mid = (a + b) / 2)
    (hs : (mid < m ∧ s0 = mid + m - b ∧ r0 = mid) ∨ (m ≤ mid ∧ s0 = a ∧ r0 = m)) : Mono (fun c => !lt (l.getD (mid + m - 1 - c) z) (l.getD c z)) s0 r0 := by
  intro c c' c1 c2 c3 hq
  simp only [Bool.not_eq_true'] at hq ⊢
  have k1 := win_le H z ho s1 (i := c) (j := c') (by omega) c2 (by omega) (by omega)
  have k2 := win_le H z ho s2 (i := mid + m - 1 - c') (j := mid + m - 1 - c) (by omega) (by omega) (by omega) h3
  have o1 := allOk_get ho z (i := c) (by omega)
  have o2 := allOk_get ho z (i := c') (by omega)
  have o3 := allOk_get ho z (i := mid + m - 1 - c') (by omega)
  have o4 := allOk_get ho z (i := mid + m - 1 - c) (by omega)
  exact H.ntrans _ _ _ o4 o3 o1 k2 (H.ntrans _ _ _ o3 o2 o1 hq k1)
theorem sym_found (H : Swo ok lt) {l : List α} {a m b mid s0 r0 st : Nat} (z : α) (h1 : a < m) (h2 : m < b) (h3 : b ≤ l.length) (ho : AllOk ok l) (s1 : Srt lt (win l a m)) (s2 : Srt lt (win l m b)) (hm : mid = (a + b) / 2)
    (hs : (mid < m ∧ s0 = mid + m - b ∧ r0 = mid) ∨ (m ≤ mid ∧ s0 = a ∧ r0 = m)) (hst : st = fstN (fun c => !lt (l.getD (mid + m - 1 - c) z) (l.getD c z)) s0 (r0 - s0)) : Found lt l z a m b mid st := by
  obtain ⟨⟨b1, b2⟩, b3, b4⟩ := fstN_spec (fun c => !lt (l.getD (mid + m - 1 - c) z) (l.getD c z)) (r0 - s0) s0
  rw [← hst] at b1 b2 b3 b4
  simp only [Bool.not_eq_true', Bool.not_eq_false'] at b3 b4
  refine ⟨by omega, fun x hx y hy => ?_, fun x hx y hy => ?_⟩
  · obtain ⟨i, i1, i2, rfl⟩ := mem_win z (by omega) hx
    obtain ⟨j, j1, j2, rfl⟩ := mem_win z (by omega) hy
    have k0 := b3 (st - 1) (by omega) (by omega)
    rw [show mid + m - 1 - (st - 1) = mid + m - st by omega] at k0
    have k1 := win_le H z ho s1 (i := i) (j := st - 1) (by omega) (by omega) (by omega) (by omega)
    have k2 := win_le H z ho s2 (i := mid + m - st) (j := j) (by omega) (by omega) (by omega) h3
    exact H.ntrans _ _ _ (allOk_get ho z (by omega)) (allOk_get ho z (i := mid + m - st) (by omega)) (allOk_get ho z (by omega)) k2 (H.ntrans _ _ _ (allOk_get ho z (by omega)) (allOk_get ho z (i := st - 1) (by omega)) (allOk_get ho z (by omega)) k0 k1)
  · obtain ⟨i, i1, i2, rfl⟩ := mem_win z (by omega) hx
    obtain ⟨j, j1, j2, rfl⟩ := mem_win z (by omega) hy
    have k0 := b4 (by omega)
    rw [show mid + m - 1 - st = mid + m - st - 1 by omega] at k0
    have k1 := win_le H z ho s1 (i := st) (j := i) (by omega) (by omega) (by omega) (by omega)
    have k2 := win_le H z ho s2 (i := j) (j := mid + m - st - 1) (by omega) (by omega) (by omega) h3
    exact H.le_lt (allOk_get ho z (by omega)) (allOk_get ho z (i := mid + m - st - 1) (by omega)) (allOk_get ho z (by omega)) k2 (H.lt_le (allOk_get ho z (by omega)) (allOk_get ho z (i := st) (by omega)) (allOk_get ho z (by omega)) k0 k1)
theorem sym_parts (H : Swo ok lt) {l : List α} {a m b mid st : Nat} (z : α) (h1 : a < m) (h2 : m < b) (h3 : b ≤ l.length) (ho : AllOk ok l) (s1 : Srt lt (win l a m)) (s2 : Srt lt (win l m b)) (hf : Found lt l z a m b mid st) :
    let r := rotL l st m (mid + m - st)
    (r.length = l.length ∧ AllOk ok r) ∧ (Srt lt (win r a st) ∧ Srt lt (win r st mid) ∧ Srt lt (win r mid (mid + m - st)) ∧ Srt lt (win r (mid + m - st) b)) ∧
      srtW lt mid b (srtW lt a mid r) = srtW lt a b l ∧ ((a = st ∨ st = mid) → srtW lt a mid r = r) ∧ ((mid = mid + m - st ∨ mid + m - st = b) → srtW lt mid b (srtW lt a mid r) = srtW lt a mid r) ∧ ((st = m ∨ m = mid + m - st) → r = l) := by
  intro r
  obtain ⟨⟨b1, b2, b3, b4, b5, b6⟩, lo, hi⟩ := hf
  have hnone : (st = m ∨ m = mid + m - st) → r = l := fun h => rotL_none b3 b4 (by omega) h
  have hlen : r.length = l.length := rotL_len b3 b4 (by omega)
  obtain ⟨p, a1, w, t, hl, e1, e2, e3⟩ := cut3 l (a := a) (b := st) (c := b) (by omega) (by omega) h3
  obtain ⟨a2, w', rfl, e4⟩ := cut1 w (a := m - st) (by omega)
  obtain ⟨c1, c2, rfl, e5⟩ := cut1 w' (a := mid + m - st - m) (by simp at e3; omega)
  simp only [List.length_append] at e3
  have hl' : l = (p ++ a1) ++ (a2 ++ (c1 ++ (c2 ++ t))) := by rw [hl]; simp
  have hr : r = (p ++ a1) ++ (c1 ++ (a2 ++ (c2 ++ t))) := by
    show rotL l st m (mid + m - st) = _
    rw [hl']; exact rotL_at (by simp; omega) (by omega) (by omega)
  have w1 : win l a m = a1 ++ a2 := by rw [hl, show p ++ (a1 ++ (a2 ++ (c1 ++ c2) ++ t)) = p ++ ((a1 ++ a2) ++ (c1 ++ (c2 ++ t))) by simp]; exact win_at e1 (by simp; omega)
  have w2 : win l m b = c1 ++ c2 := by rw [hl, show p ++ (a1 ++ (a2 ++ (c1 ++ c2) ++ t)) = (p ++ (a1 ++ a2)) ++ ((c1 ++ c2) ++ t) by simp]; exact win_at (by simp; omega) (by simp; omega)
  have w3 : win l a st = a1 := by rw [hl]; exact win_at e1 e2
  have w4 : win l (mid + m - st) b = c2 := by rw [hl, show p ++ (a1 ++ (a2 ++ (c1 ++ c2) ++ t)) = (p ++ (a1 ++ (a2 ++ c1))) ++ (c2 ++ t) by simp]; exact win_at (by simp; omega) (by omega)
  have w5 : win l st m = a2 := by rw [hl']; exact win_at (by simp; omega) (by omega)
  have w6 : win l m (mid + m - st) = c1 := by rw [hl, show p ++ (a1 ++ (a2 ++ (c1 ++ c2) ++ t)) = (p ++ (a1 ++ a2)) ++ (c1 ++ (c2 ++ t)) by simp]; exact win_at (by simp; omega) (by omega)
  have v1 : win r a st = a1 := by rw [hr, List.append_assoc]; exact win_at e1 e2
  have v2 : win r st mid = c1 := by rw [hr]; exact win_at (by simp; omega) (by omega)
  have v3 : win r mid (mid + m - st) = a2 := by rw [hr, ← List.append_assoc]; exact win_at (by simp; omega) (by omega)
  have v4 : win r (mid + m - st) b = c2 := by rw [hr, show (p ++ a1) ++ (c1 ++ (a2 ++ (c2 ++ t))) = (p ++ (a1 ++ (c1 ++ a2))) ++ (c2 ++ t) by simp]; exact win_at (by simp; omega) (by omega)
  rw [w1] at s1; rw [w2] at s2; rw [w3, w4] at lo; rw [w5, w6] at hi
  have ho' := ho
  rw [hl] at ho'
  simp only [AllOk.app] at ho'
  have q1 := Srt.app.1 s1
  have q2 := Srt.app.1 s2
  have f1 : srtW lt a mid r = p ++ (srt lt (a1 ++ c1) ++ ((a2 ++ c2) ++ t)) := by
    rw [hr, show (p ++ a1) ++ (c1 ++ (a2 ++ (c2 ++ t))) = p ++ ((a1 ++ c1) ++ ((a2 ++ c2) ++ t)) by simp]; exact srtW_at e1 (by simp; omega)
  have f2 : srtW lt mid b (srtW lt a mid r) = (p ++ srt lt (a1 ++ c1)) ++ (srt lt (a2 ++ c2) ++ t) := by
    rw [f1, ← List.append_assoc]; exact srtW_at (by simp [srt_len]; omega) (by simp; omega)
  have f3 : srtW lt a b l = p ++ (srt lt (a1 ++ (a2 ++ (c1 ++ c2))) ++ t) := by
    rw [hl, show p ++ (a1 ++ (a2 ++ (c1 ++ c2) ++ t)) = p ++ ((a1 ++ (a2 ++ (c1 ++ c2))) ++ t) by simp]; exact srtW_at e1 (by simp; omega)
  refine ⟨⟨hlen, ?_⟩, ⟨by rw [v1]; exact q1.1, by rw [v2]; exact q2.1, by rw [v3]; exact q1.2.1, by rw [v4]; exact q2.2.1⟩, ?_, fun h => ?_, fun h => ?_, hnone⟩
  · rw [hr]; simp only [AllOk.app]; exact ⟨⟨ho'.1, ho'.2.1⟩, ho'.2.2.1.2.1, ho'.2.2.1.1, ho'.2.2.1.2.2, ho'.2.2.2⟩
  · rw [f2, f3, srt_merge H ho'.2.1 ho'.2.2.1.1 ho'.2.2.1.2.1 ho'.2.2.1.2.2 s1 s2 lo hi]
    simp
  · rw [f1, hr]
    have : Srt lt (a1 ++ c1) := by
      rcases h with h | h
      · have : a1 = [] := List.eq_nil_of_length_eq_zero (by omega)
        subst this; simpa using q2.1
      · have : c1 = [] := List.eq_nil_of_length_eq_zero (by omega)
        subst this; simpa using q1.1
    rw [srt_id this]; simp
  · rw [f2, f1]
    have : Srt lt (a2 ++ c2) := by
      rcases h with h | h
      · have : a2 = [] := List.eq_nil_of_length_eq_zero (by omega)
        subst this; simpa using q2.2.1
      · have : c2 = [] := List.eq_nil_of_length_eq_zero (by omega)
        subst this; simpa using q1.2.1
    rw [srt_id this]; simp
/-! ### blocks -/
def SBl (lt : α → α → Bool) (s a e : Nat) (l : List α) : Prop := ∀ k, a ≤ k * s → k * s < e → Srt lt (win l (k * s) (min (k * s + s) e))
def blkGo (lt : α → α → Bool) (s n : Nat) : Nat → Nat → List α → List α × Nat
  | 0, a, l => (l, a)
  | k + 1, a, l => if a + s ≤ n then blkGo lt s n k (a + s) (srtW lt a (a + s) l) else (l, a)
theorem blkGo_next {s n a : Nat} {l : List α} (hs : 1 ≤ s) (h : a + s ≤ n) : ∀ (k k' : Nat), n - a ≤ k → n - (a + s) ≤ k' → blkGo lt s n k a l = blkGo lt s n k' (a + s) (srtW lt a (a + s) l) := by
  have aux : ∀ (k k' a : Nat) (l : List α), n - a ≤ k → n - a ≤ k' → blkGo lt s n k a l = blkGo lt s n k' a l := by
    intro k
    induction k with
    | zero => intro k' a l h1 h2; cases k' with
      | zero => rfl
      | succ k' => simp only [blkGo]; rw [if_neg (by omega)]
    | succ k ih => intro k' a l h1 h2; cases k' with
      | zero => simp only [blkGo]; rw [if_neg (by omega)]
      | succ k' =>
        simp only [blkGo]
        split
        · exact ih k' _ _ (by omega) (by omega)
        · rfl
  intro k k' h1 h2
  cases k with
  | zero => omega
  | succ k => simp only [blkGo]; rw [if_pos h]; exact aux _ _ _ _ (by omega) h2
theorem blkGo_end {s n a k : Nat} {l : List α} (hs : 1 ≤ s) (h : ¬ a + s ≤ n) : blkGo lt s n k a l = (l, a) := by
  cases k with
  | zero => rfl
  | succ k => simp only [blkGo]; rw [if_neg h]
theorem sbl_step (H : Swo ok lt) {s a : Nat} {l : List α} (hs : 1 ≤ s) (ha : s ∣ a) (hl : a + s ≤ l.length) (ho : AllOk ok l) (h : SBl lt s 0 a l) : SBl lt s 0 (a + s) (srtW lt a (a + s) l) := by
  intro k _ h2
  obtain ⟨c, rfl⟩ := ha
  rw [Nat.mul_comm s c] at *
  have hk : k ≤ c := by
    rcases Nat.lt_or_ge c k with hc | hc
    · have := Nat.mul_le_mul_right s (show c + 1 ≤ k from hc)
      rw [Nat.succ_mul] at this; omega
    · exact hc
  rcases Nat.lt_or_ge k c with hc | hc
  · have := Nat.mul_le_mul_right s (show k + 1 ≤ c from hc)
    rw [Nat.succ_mul] at this
    rw [Nat.min_eq_left (by omega), win_srtW_lo (by omega) hl (by omega)]
    have := h k (by omega) (by omega)
    rwa [Nat.min_eq_left (by omega)] at this
  · obtain rfl : k = c := by omega
    rw [Nat.min_eq_left (Nat.le_refl _), win_srtW_same (by omega) hl]
    exact sorted_srt H fun x hx => ho x (by
      unfold win at hx
      exact List.mem_of_mem_take (List.mem_of_mem_drop hx))
theorem sbl_tail {s a b e : Nat} {l : List α} (ha : a ≤ b) (hl : b ≤ l.length) (h : SBl lt s b e l) : SBl lt s b e (srtW lt a b l) := by
  intro k h1 h2
  rw [win_srtW_hi ha hl h1]
  exact h k h1 h2
theorem SBl.up {s a b e : Nat} {l : List α} (h : SBl lt s a e l) (hab : a ≤ b) : SBl lt s b e l := fun k h1 h2 => h k (by omega) h2
theorem blkGo_spec (H : Swo ok lt) {s s' n : Nat} (hs : 1 ≤ s) (hd : s' ∣ s) : ∀ (k a : Nat) (l : List α), n - a ≤ k → s ∣ a → a ≤ n → n ≤ l.length → AllOk ok l → SBl lt s 0 a l → SBl lt s' a n l →
    ((blkGo lt s n k a l).1.length = l.length ∧ AllOk ok (blkGo lt s n k a l).1 ∧ srt lt (blkGo lt s n k a l).1 = srt lt l) ∧ (s ∣ (blkGo lt s n k a l).2 ∧ (blkGo lt s n k a l).2 ≤ n ∧ n < (blkGo lt s n k a l).2 + s) ∧ SBl lt s 0 (blkGo lt s n k a l).2 (blkGo lt s n k a l).1 ∧ SBl lt s' (blkGo lt s n k a l).2 n (blkGo lt s n k a l).1
  | 0, a, l, hk, h1, h2, h3, ho, hb, ht => ⟨⟨rfl, ho, rfl⟩, ⟨h1, h2, by simp only [blkGo]; omega⟩, hb, ht⟩
  | k + 1, a, l, hk, h1, h2, h3, ho, hb, ht => by
    simp only [blkGo]
    split
    · rename_i hc
      have hlen : (srtW lt a (a + s) l).length = l.length := srtW_len (by omega) (by omega)
      have ih := blkGo_spec H hs hd k (a + s) (srtW lt a (a + s) l) (by omega) (Nat.dvd_add h1 (Nat.dvd_refl s)) hc (by omega) (allOk_srtW (by omega) (by omega) ho) (sbl_step H hs h1 (by omega) ho hb) (sbl_tail (by omega) (by omega) (ht.up (by omega)))
      rw [hlen, srt_srtW H (by omega) (by omega) ho] at ih
      exact ih
    · exact ⟨⟨rfl, ho, rfl⟩, ⟨h1, h2, by omega⟩, hb, ht⟩
/-- The last block, too. -/
theorem sbl_last (H : Swo ok lt) {s a n : Nat} {l : List α} (hs : 1 ≤ s) (ha : s ∣ a) (h1 : a ≤ n) (h2 : n ≤ a + s) (hl : n ≤ l.length) (ho : AllOk ok l) (h : SBl lt s 0 a l) : SBl lt s 0 n (srtW lt a n l) := by
  intro k _ h3
  obtain ⟨c, rfl⟩ := ha
  rw [Nat.mul_comm s c] at *
  have hk : k ≤ c := by
    rcases Nat.lt_or_ge c k with hc | hc
    · have := Nat.mul_le_mul_right s (show c + 1 ≤ k from hc)
      rw [Nat.succ_mul] at this; omega
    · exact hc
  rcases Nat.lt_or_ge k c with hc | hc
  · have := Nat.mul_le_mul_right s (show k + 1 ≤ c from hc)
    rw [Nat.succ_mul] at this
    rw [Nat.min_eq_left (by omega), win_srtW_lo h1 hl (by omega)]
    have := h k (by omega) (by omega)
    rwa [Nat.min_eq_left (by omega)] at this
  · obtain rfl : k = c := by omega
    rw [Nat.min_eq_right h2, win_srtW_same h1 hl]
    exact sorted_srt H fun x hx => ho x (by
      unfold win at hx
      exact List.mem_of_mem_take (List.mem_of_mem_drop hx))
theorem sbl_block {s a e : Nat} {l : List α} (ha : s ∣ a) (h : SBl lt s a e l) (h1 : a < e) : Srt lt (win l a (min (a + s) e)) := by
  obtain ⟨c, rfl⟩ := ha
  rw [Nat.mul_comm s c] at *
  exact h c (Nat.le_refl _) h1
theorem srt_nil : Srt lt ([] : List α) := List.Pairwise.nil
/-- The last pair of blocks needs no merge where there is but one. -/
theorem sbl_half {s a n : Nat} {l : List α} (hs : 1 ≤ s) (ha : 2 * s ∣ a) (h1 : a ≤ n) (h2 : n ≤ a + s) (h : SBl lt (2 * s) 0 a l) (ht : SBl lt s a n l) : SBl lt (2 * s) 0 n l := by
  intro k _ h3
  have ha' : s ∣ a := Nat.dvd_trans ⟨2, Nat.mul_comm 2 s⟩ ha
  rcases Nat.lt_or_ge (k * (2 * s)) a with hc | hc
  · obtain ⟨c, rfl⟩ := ha
    rw [Nat.mul_comm (2 * s) c] at *
    have hkc : k < c := Nat.lt_of_mul_lt_mul_right hc
    have := Nat.mul_le_mul_right (2 * s) (show k + 1 ≤ c from hkc)
    rw [Nat.succ_mul] at this
    have g := h k (by omega) hc
    rw [Nat.min_eq_left (by omega)] at g ⊢
    exact g
  · have e : k * (2 * s) = a := by
      obtain ⟨c, rfl⟩ := ha
      rw [Nat.mul_comm (2 * s) c] at *
      rcases Nat.lt_or_ge c k with hk | hk
      · have := Nat.mul_le_mul_right (2 * s) (show c + 1 ≤ k from hk)
        rw [Nat.succ_mul] at this; omega
      · rcases Nat.lt_or_ge k c with hk' | hk'
        · have := Nat.mul_le_mul_right (2 * s) (show k + 1 ≤ c from hk')
          rw [Nat.succ_mul] at this; omega
        · rw [show k = c by omega]
    rw [e] at h3 ⊢
    have g := sbl_block ha' ht h3
    rw [Nat.min_eq_right (by omega)] at g ⊢
    exact g
theorem sbl_all {s n : Nat} {l : List α} (h1 : n ≤ s) (hl : n = l.length) (h : SBl lt s 0 n l) : srt lt l = l := by
  rcases Nat.eq_zero_or_pos n with h0 | h0
  · have : l = [] := List.eq_nil_of_length_eq_zero (by omega)
    subst this; rfl
  · have := h 0 (by omega) (by omega)
    rw [Nat.zero_mul, Nat.zero_add, Nat.min_eq_right h1] at this
    have hw : win l 0 n = l := by unfold win; rw [List.drop_zero, List.take_of_length_le (by omega)]
    rw [hw] at this
    exact srt_id this
end
end Go.Proofs.Ytjgjcggecikdpaa
