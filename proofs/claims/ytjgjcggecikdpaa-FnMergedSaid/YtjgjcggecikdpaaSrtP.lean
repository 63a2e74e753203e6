/- Plain laws: what the parts of slices.SortStableFunc do to a row. Conditions: as each says. -/
import Derived.Test.YtjgjcggecikdpaaSrtN
set_option linter.unusedSimpArgs false
set_option linter.unusedVariables false
namespace Go.Proofs.Ytjgjcggecikdpaa
open Go.RowKit Sx
section
variable {α : Type} {ok : α → Prop} {lt : α → α → Bool}
theorem set_at {p t : List α} {x v : α} {a : Nat} (h : p.length = a) : (p ++ x :: t).set a v = p ++ v :: t := by
  subst h; simp [List.set_append]
theorem cons_of_len {l : List α} {n : Nat} (h : l.length = n + 1) : ∃ x t, l = x :: t ∧ t.length = n := by
  match l, h with
  | x :: t, h => exact ⟨x, t, rfl, by simpa using h⟩
theorem snoc_of_len {l : List α} {n : Nat} (h : l.length = n + 1) : ∃ t x, l = t ++ [x] ∧ t.length = n := by
  refine ⟨l.dropLast, l.getLast (by intro h0; simp [h0] at h), (List.dropLast_concat_getLast _).symm, by simp [h]⟩
theorem cut3 (l : List α) {a b c : Nat} (h1 : a ≤ b) (h2 : b ≤ c) (h3 : c ≤ l.length) : ∃ p x y t, l = p ++ (x ++ (y ++ t)) ∧ p.length = a ∧ a + x.length = b ∧ b + y.length = c := by
  obtain ⟨p, w, t, rfl, e1, e2⟩ := cut2 l (Nat.le_trans h1 h2) h3
  obtain ⟨x, y, rfl, e3⟩ := cut1 w (a := b - a) (by omega)
  exact ⟨p, x, y, t, by simp, e1, by omega, by simp at e2; omega⟩
theorem cut4 (l : List α) {a b c d : Nat} (h1 : a ≤ b) (h2 : b ≤ c) (h3 : c ≤ d) (h4 : d ≤ l.length) : ∃ p x q y t, l = p ++ (x ++ (q ++ (y ++ t))) ∧ p.length = a ∧ a + x.length = b ∧ b + q.length = c ∧ c + y.length = d := by
  obtain ⟨p, x, w, t, rfl, e1, e2, e3⟩ := cut3 l h1 (Nat.le_trans h2 h3) h4
  obtain ⟨q, y, rfl, e4⟩ := cut1 w (a := c - b) (by omega)
  exact ⟨p, x, q, y, t, by simp, e1, e2, by omega, by simp at e3; omega⟩
theorem swp_zero {l : List α} {a b : Nat} (h1 : a ≤ b) (h2 : b ≤ l.length) : swpL l a b 0 = l := by
  obtain ⟨p, q, t, rfl, e1, e2⟩ := cut2 l h1 h2
  have := swpL_at (p := p) (x := []) (q := q) (y := []) (t := t) e1 rfl rfl (by omega)
  simpa using this
theorem swp_inv {l : List α} {a b n : Nat} (h1 : a + n ≤ b) (h2 : b + n ≤ l.length) : swpL (swpL l a b n) a b n = l := by
  obtain ⟨p, x, q, y, t, rfl, e1, e2, e3, e4⟩ := cut4 l (a := a) (b := a + n) (c := b) (d := b + n) (by omega) (by omega) (by omega) h2
  rw [swpL_at e1 (by omega) (by omega) (by omega), swpL_at e1 (by omega) (by omega) (by omega)]
theorem swp_step {l : List α} {a b n : Nat} (z : α) (h1 : a + (n + 1) ≤ b) (h2 : b + (n + 1) ≤ l.length) : swpL ((l.set a (l.getD b z)).set b (l.getD a z)) (a + 1) (b + 1) n = swpL l a b (n + 1) := by
  obtain ⟨p, x, q, y, t, rfl, e1, e2, e3, e4⟩ := cut4 l (a := a) (b := a + (n + 1)) (c := b) (d := b + (n + 1)) (by omega) (by omega) (by omega) h2
  rw [swpL_at e1 (by omega) (by omega) (by omega)]
  obtain ⟨x1, x, rfl, hx⟩ := cons_of_len (show x.length = n + 1 by omega)
  obtain ⟨y1, y, rfl, hy⟩ := cons_of_len (show y.length = n + 1 by omega)
  have g1 : (p ++ (x1 :: x ++ (q ++ (y1 :: y ++ t)))).getD a z = x1 := by simp only [List.cons_append]; exact getD_at e1
  have g2 : (p ++ (x1 :: x ++ (q ++ (y1 :: y ++ t)))).getD b z = y1 := by
    rw [show p ++ (x1 :: x ++ (q ++ (y1 :: y ++ t))) = (p ++ (x1 :: x ++ q)) ++ y1 :: (y ++ t) by simp]
    exact getD_at (by simp; simp at e2 e3; omega)
  rw [g1, g2]
  have g3 : (p ++ (x1 :: x ++ (q ++ (y1 :: y ++ t)))).set a y1 = (p ++ (y1 :: x ++ q)) ++ y1 :: (y ++ t) := by
    rw [List.cons_append, set_at e1]; simp
  rw [g3, set_at (by simp; simp at e2 e3; omega)]
  have := swpL_at (p := p ++ [y1]) (x := x) (q := q ++ [x1]) (y := y) (t := t) (a := a + 1) (b := b + 1) (n := n) (by simp; omega) hx hy (by simp at e2 e3 ⊢; omega)
  simp only [List.append_assoc, List.cons_append, List.nil_append] at this ⊢
  exact this
theorem rot_gt {l : List α} {i j m : Nat} (h1 : j < i) (h2 : i ≤ m) (h3 : m + j ≤ l.length) : rotL (swpL l (m - i) m j) (m - (i - j)) m (m + j) = rotL l (m - i) m (m + j) := by
  obtain ⟨p, x, q, y, t, rfl, e1, e2, e3, e4⟩ := cut4 l (a := m - i) (b := m - i + j) (c := m) (d := m + j) (by omega) (by omega) (by omega) h3
  rw [swpL_at e1 (by omega) (by omega) (by omega)]
  have r1 := rotL_at (p := p) (x := x ++ q) (y := y) (t := t) (a := m - i) (m := m) (b := m + j) e1 (by simp; omega) (by omega)
  have r2 := rotL_at (p := p ++ y) (x := q) (y := x) (t := t) (a := m - (i - j)) (m := m) (b := m + j) (by simp; omega) (by omega) (by omega)
  simp only [List.append_assoc] at r1 r2
  rw [r1, r2]
theorem rot_lt {l : List α} {i j m : Nat} (h1 : i < j) (h2 : i ≤ m) (h3 : m + j ≤ l.length) : rotL (swpL l (m - i) (m + j - i) i) (m - i) m (m + (j - i)) = rotL l (m - i) m (m + j) := by
  obtain ⟨p, x, q, y, t, rfl, e1, e2, e3, e4⟩ := cut4 l (a := m - i) (b := m) (c := m + j - i) (d := m + j) (by omega) (by omega) (by omega) h3
  rw [swpL_at e1 (by omega) (by omega) (by omega)]
  have r1 := rotL_at (p := p) (x := x) (y := q ++ y) (t := t) (a := m - i) (m := m) (b := m + j) e1 (by omega) (by simp; omega)
  have r2 := rotL_at (p := p) (x := y) (y := q) (t := x ++ t) (a := m - i) (m := m) (b := m + (j - i)) e1 (by omega) (by omega)
  simp only [List.append_assoc] at r1 r2
  rw [r1, r2]
theorem rot_eq {l : List α} {i m : Nat} (h2 : i ≤ m) (h3 : m + i ≤ l.length) : rotL l (m - i) m (m + i) = swpL l (m - i) m i := by
  obtain ⟨p, x, y, t, rfl, e1, e2, e3⟩ := cut3 l (a := m - i) (b := m) (c := m + i) (by omega) (by omega) h3
  rw [rotL_at e1 e2 e3]
  have := swpL_at (p := p) (x := x) (q := []) (y := y) (t := t) (a := m - i) (b := m) (n := i) e1 (by omega) (by omega) (by simp; omega)
  simpa using this.symm
/-- One goes up. -/
theorem mv_up {l : List α} {k i : Nat} (z : α) (h1 : k + 1 < i) (h2 : i ≤ l.length) : rotL ((l.set k (l.getD (k + 1) z)).set (k + 1) (l.getD k z)) (k + 1) (k + 2) i = rotL l k (k + 1) i := by
  obtain ⟨p, x, y, t, rfl, e1, e2, e3⟩ := cut3 l (a := k) (b := k + 1) (c := i) (by omega) (by omega) h2
  rw [rotL_at e1 e2 e3]
  obtain ⟨x1, x, rfl, hx⟩ := cons_of_len (show x.length = 0 + 1 by omega)
  have := List.eq_nil_of_length_eq_zero hx
  subst this
  obtain ⟨y1, y, rfl, hy⟩ := cons_of_len (show y.length = (i - k - 2) + 1 by omega)
  have g1 : (p ++ ([x1] ++ (y1 :: y ++ t))).getD k z = x1 := getD_at e1
  have g2 : (p ++ ([x1] ++ (y1 :: y ++ t))).getD (k + 1) z = y1 := by
    rw [show p ++ ([x1] ++ (y1 :: y ++ t)) = (p ++ [x1]) ++ y1 :: (y ++ t) by simp]
    exact getD_at (by simp; omega)
  rw [g1, g2, List.singleton_append, set_at e1, show p ++ y1 :: (y1 :: y ++ t) = (p ++ [y1]) ++ y1 :: (y ++ t) by simp, set_at (by simp; omega)]
  have := rotL_at (p := p ++ [y1]) (x := [x1]) (y := y) (t := t) (a := k + 1) (m := k + 2) (b := i) (by simp; omega) (by simp) (by omega)
  simp only [List.append_assoc, List.cons_append, List.nil_append] at this ⊢
  exact this
/-- One goes down. -/
theorem mv_dn {l : List α} {k i : Nat} (z : α) (h1 : i < k) (h2 : k < l.length) : rotL ((l.set k (l.getD (k - 1) z)).set (k - 1) (l.getD k z)) i (k - 1) k = rotL l i k (k + 1) := by
  obtain ⟨p, x, y, t, rfl, e1, e2, e3⟩ := cut3 l (a := i) (b := k) (c := k + 1) (by omega) (by omega) (by omega)
  rw [rotL_at e1 e2 e3]
  obtain ⟨x, x1, rfl, hx⟩ := snoc_of_len (show x.length = (k - i - 1) + 1 by omega)
  obtain ⟨y1, y, rfl, hy⟩ := cons_of_len (show y.length = 0 + 1 by omega)
  have := List.eq_nil_of_length_eq_zero hy
  subst this
  have e0 : p ++ (x ++ [x1] ++ ([y1] ++ t)) = (p ++ x) ++ x1 :: y1 :: t := by simp
  rw [e0, set_swap (by simp; omega)]
  have := rotL_at (p := p) (x := x) (y := [y1]) (t := x1 :: t) (a := i) (m := k - 1) (b := k) e1 (by omega) (by simp; omega)
  simp only [List.append_assoc, List.cons_append, List.nil_append] at this ⊢
  exact this
/-! ### sorting again what is sorted in part -/
theorem srt_ins (H : Swo ok lt) {x : α} (hx : ok x) : ∀ {l b : List α}, AllOk ok l → AllOk ok b → srt lt (ins lt x l ++ b) = srt lt (x :: (l ++ b))
  | [], b, _, _ => rfl
  | y :: l, b, hl, hb => by
    have hl' := AllOk.cons.1 hl
    simp only [ins]
    split
    · rename_i hc
      have ih := srt_ins H hx hl'.2 hb
      simp only [List.cons_append, srt] at ih ⊢
      rw [ih, ins_comm H hx hl'.1 hc (AllOk.srt (AllOk.app.2 ⟨hl'.2, hb⟩))]
    · rfl
theorem srt_part (H : Swo ok lt) : ∀ {a b : List α}, AllOk ok a → AllOk ok b → srt lt (srt lt a ++ b) = srt lt (a ++ b)
  | [], b, _, _ => rfl
  | x :: a, b, ha, hb => by
    have ha' := AllOk.cons.1 ha
    simp only [srt]
    rw [srt_ins H ha'.1 (AllOk.srt ha'.2) hb]
    simp only [srt, List.cons_append]
    rw [srt_part H ha'.2 hb]
theorem allOk_srtW {l : List α} {a b : Nat} (h1 : a ≤ b) (h2 : b ≤ l.length) (h : AllOk ok l) : AllOk ok (srtW lt a b l) := by
  obtain ⟨p, w, t, rfl, e1, e2⟩ := cut2 l h1 h2
  rw [srtW_at e1 e2]
  simp only [AllOk.app] at h ⊢
  exact ⟨h.1, AllOk.srt h.2.1, h.2.2⟩
theorem srt_srtW (H : Swo ok lt) {l : List α} {a b : Nat} (h1 : a ≤ b) (h2 : b ≤ l.length) (h : AllOk ok l) : srt lt (srtW lt a b l) = srt lt l := by
  obtain ⟨p, w, t, rfl, e1, e2⟩ := cut2 l h1 h2
  rw [srtW_at e1 e2]
  simp only [AllOk.app] at h
  exact srt_pre (srt_part H h.2.1 h.2.2) p
theorem srtW_srtW (H : Swo ok lt) {l : List α} {a c b : Nat} (h1 : a ≤ c) (h2 : c ≤ b) (h3 : b ≤ l.length) (h : AllOk ok l) : srtW lt a b (srtW lt a c l) = srtW lt a b l := by
  obtain ⟨p, x, y, t, rfl, e1, e2, e3⟩ := cut3 l h1 h2 h3
  simp only [AllOk.app] at h
  have r1 := srtW_at (lt := lt) (p := p) (w := x) (t := y ++ t) e1 e2
  have r2 := srtW_at (lt := lt) (p := p) (w := srt lt x ++ y) (t := t) (a := a) (b := b) e1 (by simp [srt_len]; omega)
  have r3 := srtW_at (lt := lt) (p := p) (w := x ++ y) (t := t) (a := a) (b := b) e1 (by simp; omega)
  simp only [List.append_assoc] at r1 r2 r3
  rw [r1, r2, r3, srt_part H h.2.1 h.2.2.1]
theorem win_srtW_same {l : List α} {a b : Nat} (h1 : a ≤ b) (h2 : b ≤ l.length) : win (srtW lt a b l) a b = srt lt (win l a b) := by
  obtain ⟨p, w, t, rfl, e1, e2⟩ := cut2 l h1 h2
  rw [srtW_at e1 e2, win_at e1 e2, win_at e1 (by rw [srt_len]; exact e2)]
theorem win_srtW_lo {l : List α} {a b x y : Nat} (h1 : a ≤ b) (h2 : b ≤ l.length) (h : y ≤ a) : win (srtW lt a b l) x y = win l x y := by
  unfold win srtW
  rw [List.take_append_of_le_length (by simp; omega), List.take_take, Nat.min_eq_left h]
theorem win_srtW_hi {l : List α} {a b x y : Nat} (h1 : a ≤ b) (h2 : b ≤ l.length) (h : b ≤ x) : win (srtW lt a b l) x y = win l x y := by
  obtain ⟨p, w, t, rfl, e1, e2⟩ := cut2 l h1 h2
  rw [srtW_at e1 e2]
  unfold win
  rw [List.drop_take, List.drop_take]
  have f : ∀ (v : List α), a + v.length = b → (p ++ (v ++ t)).drop x = t.drop (x - b) := fun v hv => by
    rw [← List.append_assoc, List.drop_append, List.drop_eq_nil_of_le (by simp; omega)]
    simp; congr 1; omega
  rw [f w e2, f _ (by rw [srt_len]; exact e2)]
theorem win_self {l : List α} {x : Nat} : win l x x = [] := by
  unfold win; exact List.drop_eq_nil_of_le (by simp; omega)
theorem win_one {l : List α} {x : Nat} : Srt lt (win l x (x + 1)) := by
  have : (win l x (x + 1)).length ≤ 1 := by unfold win; simp; omega
  match hw : win l x (x + 1), this with
  | [], _ => exact List.Pairwise.nil
  | [y], _ => exact List.pairwise_singleton _ _
/-! ### an insertion from the right -/
def InsInv (lt : α → α → Bool) (l : List α) (a j e : Nat) : Prop := Srt lt (win l a j) ∧ Srt lt (win l j e) ∧ ∀ x ∈ win l a j, ∀ y ∈ win l (j + 1) e, lt y x = false
theorem insInv_begin {l : List α} {a i : Nat} (h : Srt lt (win l a i)) : InsInv lt l a i (i + 1) := ⟨h, win_one, fun x _ y hy => by rw [win_self] at hy; simp at hy⟩
theorem ins_end (H : Swo ok lt) {l : List α} {a j e : Nat} (z : α) (h1 : a ≤ j) (h2 : j < e) (h3 : e ≤ l.length) (ho : AllOk ok l) (h : InsInv lt l a j e) (hd : j = a ∨ lt (l.getD j z) (l.getD (j - 1) z) = false) : srtW lt a e l = l := by
  obtain ⟨p, s, r, t, rfl, e1, e2, e3⟩ := cut3 l h1 (Nat.le_of_lt h2) h3
  obtain ⟨x, r, rfl, hr⟩ := cons_of_len (show r.length = (e - j - 1) + 1 by omega)
  have w1 : win (p ++ (s ++ (x :: r ++ t))) a j = s := win_at e1 e2
  have w2 : win (p ++ (s ++ (x :: r ++ t))) j e = x :: r := by rw [← List.append_assoc]; exact win_at (by simp; omega) e3
  have w3 : win (p ++ (s ++ (x :: r ++ t))) (j + 1) e = r := by
    rw [show p ++ (s ++ (x :: r ++ t)) = (p ++ (s ++ [x])) ++ (r ++ t) by simp]
    exact win_at (by simp; omega) (by omega)
  obtain ⟨g1, g2, g3⟩ := h
  rw [w1] at g1 g3; rw [w2] at g2; rw [w3] at g3
  have := srtW_at (lt := lt) (p := p) (w := s ++ x :: r) (t := t) (a := a) (b := e) e1 (by simp; omega)
  rw [show p ++ (s ++ (x :: r ++ t)) = p ++ ((s ++ x :: r) ++ t) by simp, this]
  rw [srt_id]
  refine Srt.app.2 ⟨g1, g2, fun u hu v hv => ?_⟩
  rcases List.mem_cons.1 hv with rfl | hv
  · rcases hd with hd | hd
    · have : s = [] := List.eq_nil_of_length_eq_zero (by omega)
      subst this; simp at hu
    · rcases Nat.eq_zero_or_pos s.length with h0 | h0
      · have : s = [] := List.eq_nil_of_length_eq_zero h0
        subst this; simp at hu
      · obtain ⟨s, y, rfl, hs⟩ := snoc_of_len (show s.length = (s.length - 1) + 1 by omega)
        have d1 : (p ++ (s ++ [y] ++ (v :: r ++ t))).getD j z = v := by
          rw [show p ++ (s ++ [y] ++ (v :: r ++ t)) = (p ++ (s ++ [y])) ++ v :: (r ++ t) by simp]
          exact getD_at (by simp; simp at e2; omega)
        have d2 : (p ++ (s ++ [y] ++ (v :: r ++ t))).getD (j - 1) z = y := by
          rw [show p ++ (s ++ [y] ++ (v :: r ++ t)) = (p ++ s) ++ y :: (v :: (r ++ t)) by simp]
          exact getD_at (by simp; simp at e2; omega)
        rw [d1, d2] at hd
        simp only [AllOk.app, AllOk.cons, List.cons_append] at ho
        have g := Srt.app.1 g1
        rcases List.mem_append.1 hu with hu | hu
        · exact H.ntrans v y u ho.2.2.1 ho.2.1.2.1 (ho.2.1.1 u hu) hd (g.2.2 u hu y (by simp))
        · simp only [List.mem_singleton] at hu; subst hu; exact hd
  · exact g3 u hu v hv
theorem ins_go (H : Swo ok lt) {l : List α} {a j e : Nat} (z : α) (h1 : a < j) (h2 : j < e) (h3 : e ≤ l.length) (ho : AllOk ok l) (h : InsInv lt l a j e) (hd : lt (l.getD j z) (l.getD (j - 1) z) = true) :
    srtW lt a e ((l.set j (l.getD (j - 1) z)).set (j - 1) (l.getD j z)) = srtW lt a e l ∧ InsInv lt ((l.set j (l.getD (j - 1) z)).set (j - 1) (l.getD j z)) a (j - 1) e ∧ AllOk ok ((l.set j (l.getD (j - 1) z)).set (j - 1) (l.getD j z)) := by
  obtain ⟨p, s, r, t, rfl, e1, e2, e3⟩ := cut3 l (Nat.le_of_lt h1) (Nat.le_of_lt h2) h3
  obtain ⟨x, r, rfl, hr⟩ := cons_of_len (show r.length = (e - j - 1) + 1 by omega)
  obtain ⟨s, y, rfl, hs⟩ := snoc_of_len (show s.length = (j - a - 1) + 1 by omega)
  have w1 : win (p ++ (s ++ [y] ++ (x :: r ++ t))) a j = s ++ [y] := win_at e1 e2
  have w2 : win (p ++ (s ++ [y] ++ (x :: r ++ t))) j e = x :: r := by rw [← List.append_assoc]; exact win_at (by simp; simp at e2; omega) e3
  have w3 : win (p ++ (s ++ [y] ++ (x :: r ++ t))) (j + 1) e = r := by
    rw [show p ++ (s ++ [y] ++ (x :: r ++ t)) = (p ++ (s ++ [y, x])) ++ (r ++ t) by simp]
    exact win_at (by simp; omega) (by omega)
  obtain ⟨g1, g2, g3⟩ := h
  rw [w1] at g1 g3; rw [w2] at g2; rw [w3] at g3
  have e0 : p ++ (s ++ [y] ++ (x :: r ++ t)) = (p ++ s) ++ y :: x :: (r ++ t) := by simp
  have d1 : (p ++ (s ++ [y] ++ (x :: r ++ t))).getD j z = x := by
    rw [show p ++ (s ++ [y] ++ (x :: r ++ t)) = (p ++ (s ++ [y])) ++ x :: (r ++ t) by simp]
    exact getD_at (by simp; omega)
  have d2 : (p ++ (s ++ [y] ++ (x :: r ++ t))).getD (j - 1) z = y := by
    rw [e0]
    exact getD_at (by simp; omega)
  rw [d1, d2] at hd
  have hsw : ((p ++ (s ++ [y] ++ (x :: r ++ t))).set j ((p ++ (s ++ [y] ++ (x :: r ++ t))).getD (j - 1) z)).set (j - 1) ((p ++ (s ++ [y] ++ (x :: r ++ t))).getD j z) = p ++ (s ++ (x :: (y :: r) ++ t)) := by
    rw [e0, set_swap (by simp; omega)]; simp
  rw [hsw]
  have ho' := ho
  simp only [AllOk.app, AllOk.cons, List.cons_append] at ho'
  have gs := Srt.app.1 g1
  have gr := List.pairwise_cons.1 g2
  refine ⟨?_, ⟨?_, ?_, ?_⟩, ?_⟩
  · have r1 := srtW_at (lt := lt) (p := p) (w := s ++ (x :: y :: r)) (t := t) (a := a) (b := e) e1 (by simp; omega)
    have r2 := srtW_at (lt := lt) (p := p) (w := s ++ (y :: x :: r)) (t := t) (a := a) (b := e) e1 (by simp; omega)
    simp only [List.append_assoc, List.cons_append, List.nil_append] at r1 r2 ⊢
    rw [r1, r2]
    have := srt_swap1 H (x := y) (b := [x]) (t := r) ho'.2.1.2.1 (by simpa [AllOk] using ho'.2.2.1) ho'.2.2.2.1 (by simpa using hd)
    simp only [List.cons_append, List.nil_append] at this
    rw [srt_pre this s]
  · rw [show win (p ++ (s ++ (x :: (y :: r) ++ t))) a (j - 1) = s from win_at e1 (by omega)]
    exact gs.1
  · rw [show win (p ++ (s ++ (x :: (y :: r) ++ t))) (j - 1) e = x :: y :: r by
      rw [← List.append_assoc]; exact win_at (by simp; omega) (by simp; omega)]
    refine List.pairwise_cons.2 ⟨fun v hv => ?_, List.pairwise_cons.2 ⟨fun v hv => g3 y (by simp) v hv, gr.2⟩⟩
    rcases List.mem_cons.1 hv with rfl | hv
    · exact H.asym _ _ ho'.2.2.1 ho'.2.1.2.1 hd
    · exact gr.1 v hv
  · rw [show win (p ++ (s ++ (x :: (y :: r) ++ t))) a (j - 1) = s from win_at e1 (by omega), show win (p ++ (s ++ (x :: (y :: r) ++ t))) (j - 1 + 1) e = y :: r by
      rw [show p ++ (s ++ (x :: (y :: r) ++ t)) = (p ++ (s ++ [x])) ++ ((y :: r) ++ t) by simp]
      exact win_at (by simp; omega) (by simp; omega)]
    intro u hu v hv
    rcases List.mem_cons.1 hv with rfl | hv
    · exact gs.2.2 u hu v (by simp)
    · exact g3 u (by simp [hu]) v hv
  · simp only [AllOk.app, AllOk.cons, List.cons_append]
    exact ⟨ho'.1, ho'.2.1.1, ho'.2.2.1, ho'.2.1.2.1, ho'.2.2.2⟩
end
end Go.Proofs.Ytjgjcggecikdpaa
