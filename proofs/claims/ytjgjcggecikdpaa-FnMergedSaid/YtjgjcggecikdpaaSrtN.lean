/- Plain laws: the order of notes; binary searches; a merge by rotation. Conditions: as each says. -/
import Derived.Test.YtjgjcggecikdpaaFe
import Derived.Test.YtjgjcggecikdpaaSrtL
set_option linter.unusedSimpArgs false
set_option linter.unusedVariables false
namespace Go.Proofs.Ytjgjcggecikdpaa
open Go.RowKit Sx
def ltN (x y : tNote.den) : Bool := decide (cmpN x y < 0)
def goodN (x : tNote.den) : Prop := noteF x = true
/-! ### the order of notes -/
theorem fr_lt_le {a b c d e f : Int} (hb : 1 ≤ b) (hd : 1 ≤ d) (hf : 1 ≤ f) (h1 : a * d < c * b) (h2 : c * f ≤ e * d) : a * f < e * b := by
  have b1 : a * d * f < c * b * f := Int.mul_lt_mul_of_pos_right h1 (by omega)
  have b2 : c * f * b ≤ e * d * b := Int.mul_le_mul_of_nonneg_right h2 (by omega)
  have c1 : a * f * d < e * b * d := by
    rw [show a * f * d = a * d * f by rw [Int.mul_right_comm], show e * b * d = e * d * b by rw [Int.mul_right_comm]]
    rw [show c * f * b = c * b * f by rw [Int.mul_right_comm]] at b2
    omega
  exact Int.lt_of_mul_lt_mul_right c1 (by omega)
theorem fr_le_lt {a b c d e f : Int} (hb : 1 ≤ b) (hd : 1 ≤ d) (hf : 1 ≤ f) (h1 : a * d ≤ c * b) (h2 : c * f < e * d) : a * f < e * b := by
  have b1 : a * d * f ≤ c * b * f := Int.mul_le_mul_of_nonneg_right h1 (by omega)
  have b2 : c * f * b < e * d * b := Int.mul_lt_mul_of_pos_right h2 (by omega)
  have c1 : a * f * d < e * b * d := by
    rw [show a * f * d = a * d * f by rw [Int.mul_right_comm], show e * b * d = e * d * b by rw [Int.mul_right_comm]]
    rw [show c * f * b = c * b * f by rw [Int.mul_right_comm]] at b2
    omega
  exact Int.lt_of_mul_lt_mul_right c1 (by omega)
theorem fr_le_le {a b c d e f : Int} (hb : 1 ≤ b) (hd : 1 ≤ d) (hf : 1 ≤ f) (h1 : a * d ≤ c * b) (h2 : c * f ≤ e * d) : a * f ≤ e * b := by
  have b1 : a * d * f ≤ c * b * f := Int.mul_le_mul_of_nonneg_right h1 (by omega)
  have b2 : c * f * b ≤ e * d * b := Int.mul_le_mul_of_nonneg_right h2 (by omega)
  have c1 : a * f * d ≤ e * b * d := by
    rw [show a * f * d = a * d * f by rw [Int.mul_right_comm], show e * b * d = e * d * b by rw [Int.mul_right_comm]]
    rw [show c * f * b = c * b * f by rw [Int.mul_right_comm]] at b2
    omega
  exact Int.le_of_mul_le_mul_right c1 (by omega)
def lexI (p q c1 c2 k1 k2 : Int) : Int := if (if p < q then (-1 : Int) else if q < p then 1 else 0) ≠ 0 then (if p < q then -1 else if q < p then 1 else 0) else if c1 ≠ c2 then c1 - c2 else k1 - k2
theorem cmpN_lex (x y : tNote.den) : cmpN x y = lexI (x.1.1 * y.1.2) (y.1.1 * x.1.2) x.2.2.2.2 y.2.2.2.2 x.2.2.1 y.2.2.1 := rfl
theorem lexI_lt (p q c1 c2 k1 k2 : Int) : lexI p q c1 c2 k1 k2 < 0 ↔ p < q ∨ (p = q ∧ (c1 < c2 ∨ (c1 = c2 ∧ k1 < k2))) := by
  unfold lexI
  by_cases h1 : p < q
  · simp [h1]
  · by_cases h2 : q < p
    · simp only [if_neg h1, if_pos h2]; simp; omega
    · simp only [if_neg h1, if_neg h2]; simp; split <;> omega
theorem lexI_eq (p q c1 c2 k1 k2 : Int) : lexI p q c1 c2 k1 k2 = 0 ↔ p = q ∧ c1 = c2 ∧ k1 = k2 := by
  unfold lexI
  by_cases h1 : p < q
  · simp [h1]; omega
  · by_cases h2 : q < p
    · simp only [if_neg h1, if_pos h2]; simp; omega
    · simp only [if_neg h1, if_neg h2]; simp; split <;> omega
theorem lexI_no (p q c1 c2 k1 k2 : Int) : ¬ lexI p q c1 c2 k1 k2 < 0 ↔ q < p ∨ (q = p ∧ (c2 < c1 ∨ (c2 = c1 ∧ k2 ≤ k1))) := by
  rw [lexI_lt]; omega
theorem lexI_asym {p q c1 c2 k1 k2 : Int} (h : lexI p q c1 c2 k1 k2 < 0) : ¬ lexI q p c2 c1 k2 k1 < 0 := by
  rw [lexI_lt] at h
  rw [lexI_no]; omega
theorem lexI_ntr {a b c d e f x1 x2 x3 k1 k2 k3 : Int} (dx : 1 ≤ b) (dy : 1 ≤ d) (dz : 1 ≤ f) (h1 : ¬ lexI (a * d) (c * b) x1 x2 k1 k2 < 0) (h2 : ¬ lexI (c * f) (e * d) x2 x3 k2 k3 < 0) : ¬ lexI (a * f) (e * b) x1 x3 k1 k3 < 0 := by
  rw [lexI_no] at h1 h2 ⊢
  rcases h1 with h1 | ⟨e1, h1⟩ <;> rcases h2 with h2 | ⟨e2, h2⟩
  · exact .inl (fr_lt_le dz dy dx h2 (by omega))
  · exact .inl (fr_le_lt dz dy dx (by omega) h1)
  · exact .inl (fr_lt_le dz dy dx h2 (by omega))
  · have k1 := fr_le_le dz dy dx (Int.le_of_eq e2) (Int.le_of_eq e1)
    have k2 := fr_le_le dx dy dz (Int.le_of_eq e1.symm) (Int.le_of_eq e2.symm)
    exact .inr ⟨by omega, by omega⟩
theorem ltN_true (x y : tNote.den) : ltN x y = true ↔ cmpN x y < 0 := by simp [ltN]
theorem ltN_false (x y : tNote.den) : ltN x y = false ↔ ¬ cmpN x y < 0 := by simp [ltN]
theorem goodN_den {x : tNote.den} (h : goodN x) : 1 ≤ x.1.2 := by
  simp only [goodN, noteF, beatF, Bool.and_eq_true, decide_eq_true_eq] at h
  exact (okF_bd h.1.1).1.1
theorem swoN : Swo goodN ltN := by
  constructor
  · intro x y _ _ h
    rw [ltN_true] at h
    rw [ltN_false]
    exact lexI_asym h
  · intro x y z hx hy hz h1 h2
    rw [ltN_false] at h1 h2 ⊢
    exact lexI_ntr (goodN_den hx) (goodN_den hy) (goodN_den hz) h1 h2
theorem cmpN_zero {x y : tNote.den} : cmpN x y = 0 ↔ ltN x y = false ∧ ltN y x = false := by
  rw [ltN_false, ltN_false]
  show lexI _ _ _ _ _ _ = 0 ↔ ¬ lexI _ _ _ _ _ _ < 0 ∧ ¬ lexI _ _ _ _ _ _ < 0
  rw [lexI_eq, lexI_no, lexI_no]
  omega
section
variable {α : Type} {ok : α → Prop} {lt : α → α → Bool}
/-! ### the first place at which a test fails -/
def fstN (q : Nat → Bool) : Nat → Nat → Nat
  | i, 0 => i
  | i, n + 1 => if q i = true then fstN q (i + 1) n else i
theorem fstN_spec (q : Nat → Bool) : ∀ (n i : Nat), (i ≤ fstN q i n ∧ fstN q i n ≤ i + n) ∧ (∀ c, i ≤ c → c < fstN q i n → q c = true) ∧ (fstN q i n < i + n → q (fstN q i n) = false)
  | 0, i => by simp [fstN]; intro c h1 h2; omega
  | n + 1, i => by
    have ih := fstN_spec q n (i + 1)
    simp only [fstN]
    by_cases h : q i = true
    · rw [if_pos h]
      refine ⟨by omega, fun c h1 h2 => ?_, fun h3 => ih.2.2 (by omega)⟩
      rcases Nat.lt_or_ge i c with hc | hc
      · exact ih.2.1 c hc h2
      · rw [show c = i by omega]; exact h
    · rw [if_neg h]
      exact ⟨by omega, fun c h1 h2 => by omega, fun _ => by simpa using h⟩
def Mono (q : Nat → Bool) (i j : Nat) : Prop := ∀ c c', i ≤ c → c ≤ c' → c' < j → q c' = true → q c = true
theorem fstN_uniq {q : Nat → Bool} {i n t : Nat} (h1 : i ≤ t) (h2 : t ≤ i + n) (h3 : ∀ c, i ≤ c → c < t → q c = true) (h4 : t < i + n → q t = false) : fstN q i n = t := by
  obtain ⟨⟨a1, a2⟩, a3, a4⟩ := fstN_spec q n i
  rcases Nat.lt_trichotomy (fstN q i n) t with h | h | h
  · exact absurd (h3 _ a1 h) (by rw [a4 (by omega)]; simp)
  · exact h
  · exact absurd (a3 _ h1 h) (by rw [h4 (by omega)]; simp)
theorem fstN_up {q : Nat → Bool} {i h j : Nat} (hm : Mono q i j) (h1 : i ≤ h) (h2 : h < j) (hq : q h = true) : fstN q i (j - i) = fstN q (h + 1) (j - (h + 1)) := by
  obtain ⟨⟨a1, a2⟩, a3, a4⟩ := fstN_spec q (j - (h + 1)) (h + 1)
  refine fstN_uniq (by omega) (by omega) (fun c c1 c2 => ?_) (fun h3 => a4 (by omega))
  rcases Nat.lt_or_ge h c with hc | hc
  · exact a3 c hc c2
  · exact hm c h c1 hc h2 hq
theorem fstN_dn {q : Nat → Bool} {i h j : Nat} (hm : Mono q i j) (h1 : i ≤ h) (h2 : h < j) (hq : q h = false) : fstN q i (j - i) = fstN q i (h - i) := by
  obtain ⟨⟨a1, a2⟩, a3, a4⟩ := fstN_spec q (h - i) i
  refine fstN_uniq (by omega) (by omega) a3 (fun h3 => ?_)
  rcases Nat.lt_or_ge (fstN q i (h - i)) h with hc | hc
  · exact a4 (by omega)
  · rw [show fstN q i (h - i) = h by omega]; exact hq
theorem Mono.sub {q : Nat → Bool} {i j i' j' : Nat} (h : Mono q i j) (h1 : i ≤ i') (h2 : j' ≤ j) : Mono q i' j' := fun c c' a1 a2 a3 => h c c' (by omega) a2 (by omega)
theorem fstN_end (q : Nat → Bool) {i j : Nat} (h : j ≤ i) : fstN q i (j - i) = i := by rw [show j - i = 0 by omega]; rfl
/-! ### windows -/
def win (l : List α) (a b : Nat) : List α := (l.take b).drop a
theorem win_at {p w t : List α} {a b : Nat} (h1 : p.length = a) (h2 : a + w.length = b) : win (p ++ (w ++ t)) a b = w := by
  unfold win
  rw [← List.append_assoc, take_at (by simp; omega), drop_at h1]
theorem srt_get {l : List α} (h : Srt lt l) {i j : Nat} (z : α) (hij : i < j) (hj : j < l.length) : lt (l.getD j z) (l.getD i z) = false := by
  have := List.pairwise_iff_getElem.1 h i j (Nat.lt_trans hij hj) hj hij
  rw [getD_lt _ _ _ hj, getD_lt _ _ _ (Nat.lt_trans hij hj)]; exact this
theorem win_get {l : List α} {a b k : Nat} (z : α) (hb : b ≤ l.length) (hk : a + k < b) : (win l a b).getD k z = l.getD (a + k) z := by
  unfold win
  simp [List.getD, List.getElem?_drop, List.getElem?_take, hk]
theorem win_len {l : List α} {a b : Nat} (h : a ≤ b) (hb : b ≤ l.length) : (win l a b).length = b - a := by
  unfold win; simp; omega
theorem win_srt {l : List α} {a b i j : Nat} (z : α) (h : Srt lt (win l a b)) (h1 : a ≤ i) (h2 : i < j) (h3 : j < b) (hb : b ≤ l.length) : lt (l.getD j z) (l.getD i z) = false := by
  have := srt_get h z (i := i - a) (j := j - a) (by omega) (by rw [win_len (by omega) hb]; omega)
  rw [win_get z hb (by omega), win_get z hb (by omega)] at this
  rwa [show a + (i - a) = i by omega, show a + (j - a) = j by omega] at this
theorem allOk_get {l : List α} (h : AllOk ok l) {i : Nat} (z : α) (hi : i < l.length) : ok (l.getD i z) := by
  rw [getD_lt _ _ _ hi]; exact h _ (List.getElem_mem hi)
theorem pw_app {r : α → α → Prop} {a b : List α} : (a ++ b).Pairwise r ↔ a.Pairwise r ∧ b.Pairwise r ∧ ∀ x ∈ a, ∀ y ∈ b, r x y := List.pairwise_append
theorem Srt.app {a b : List α} : Srt lt (a ++ b) ↔ Srt lt a ∧ Srt lt b ∧ ∀ x ∈ a, ∀ y ∈ b, lt y x = false := List.pairwise_append
/-! ### a merge by rotation -/
theorem srt_merge (H : Swo ok lt) {a1 a2 b1 b2 : List α} (o1 : AllOk ok a1) (o2 : AllOk ok a2) (o3 : AllOk ok b1) (o4 : AllOk ok b2) (s1 : Srt lt (a1 ++ a2)) (s2 : Srt lt (b1 ++ b2))
    (h1 : ∀ x ∈ a1, ∀ y ∈ b2, lt y x = false) (h2 : ∀ x ∈ a2, ∀ y ∈ b1, lt y x = true) : srt lt (a1 ++ (a2 ++ (b1 ++ b2))) = srt lt (a1 ++ b1) ++ srt lt (a2 ++ b2) := by
  rw [srt_pre (srt_swap H o2 o3 o4 h2) a1, ← List.append_assoc]
  have s1 := Srt.app.1 s1
  have s2 := Srt.app.1 s2
  refine srt_append fun x hx y hy => ?_
  rcases List.mem_append.1 hx with hx | hx <;> rcases List.mem_append.1 hy with hy | hy
  · exact s1.2.2 x hx y hy
  · exact h1 x hx y hy
  · exact H.asym _ _ (o3 x hx) (o2 y hy) (h2 y hy x hx)
  · exact s2.2.2 x hx y hy
/-- One row goes to its place among sorted ones. -/
theorem ins_at {x : α} : ∀ {a b : List α}, (∀ y ∈ a, lt y x = true) → (∀ y ∈ b, lt y x = false) → ins lt x (a ++ b) = a ++ x :: b
  | [], b, _, h => by simp [ins_front h]
  | y :: a, b, h1, h2 => by
    simp only [List.cons_append, ins, if_pos (h1 y (by simp))]
    rw [ins_at (fun z hz => h1 z (by simp [hz])) h2]
end
end Go.Proofs.Ytjgjcggecikdpaa
