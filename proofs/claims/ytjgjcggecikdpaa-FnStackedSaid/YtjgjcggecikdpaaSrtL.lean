/- Plain laws on sorting lists, and on rows whose parts are moved. Conditions: as each says. -/
import Derived.Test.YtjgjcggecikdpaaSxP
set_option linter.unusedSimpArgs false
set_option linter.unusedVariables false
namespace Go.Proofs.Ytjgjcggecikdpaa
section
variable {α : Type}
/-- An order's test, on things that are as they should be. -/
structure Swo (ok : α → Prop) (lt : α → α → Bool) : Prop where
  asym : ∀ x y, ok x → ok y → lt x y = true → lt y x = false
  ntrans : ∀ x y z, ok x → ok y → ok z → lt x y = false → lt y z = false → lt x z = false
variable {ok : α → Prop} {lt : α → α → Bool}
theorem Swo.irr (H : Swo ok lt) {x : α} (h : ok x) : lt x x = false := by
  cases hx : lt x x
  · rfl
  · rw [← hx]; exact H.asym x x h h hx
theorem Swo.trans (H : Swo ok lt) {x y z : α} (hx : ok x) (hy : ok y) (hz : ok z) (h1 : lt x y = true) (h2 : lt y z = true) : lt x z = true := by
  cases h : lt x z
  · exact absurd (H.ntrans x z y hx hz hy h (H.asym y z hy hz h2)) (by simp [h1])
  · rfl
/-- x ≤ y < z. -/
theorem Swo.le_lt (H : Swo ok lt) {x y z : α} (hx : ok x) (hy : ok y) (hz : ok z) (h1 : lt y x = false) (h2 : lt y z = true) : lt x z = true := by
  cases h : lt x z
  · exact absurd (H.ntrans y x z hy hx hz h1 h) (by simp [h2])
  · rfl
/-- x < y ≤ z. -/
theorem Swo.lt_le (H : Swo ok lt) {x y z : α} (hx : ok x) (hy : ok y) (hz : ok z) (h1 : lt x y = true) (h2 : lt z y = false) : lt x z = true := by
  cases h : lt x z
  · exact absurd (H.ntrans x z y hx hz hy h h2) (by simp [h1])
  · rfl
/-- x ≤ y ≤ z. -/
theorem Swo.le_le (H : Swo ok lt) {x y z : α} (hx : ok x) (hy : ok y) (hz : ok z) (h1 : lt y x = false) (h2 : lt z y = false) : lt z x = false := H.ntrans z y x hz hy hx h2 h1
def ins (lt : α → α → Bool) (x : α) : List α → List α
  | [] => [x]
  | y :: l => if lt y x = true then y :: ins lt x l else x :: y :: l
def srt (lt : α → α → Bool) : List α → List α
  | [] => []
  | x :: l => ins lt x (srt lt l)
def Srt (lt : α → α → Bool) (l : List α) : Prop := l.Pairwise fun x y => lt y x = false
def AllOk (ok : α → Prop) (l : List α) : Prop := ∀ x ∈ l, ok x
theorem mem_ins {x z : α} : ∀ {l : List α}, z ∈ ins lt x l ↔ z = x ∨ z ∈ l
  | [] => by simp [ins]
  | y :: l => by
    simp only [ins]
    split
    · simp only [List.mem_cons, mem_ins]; grind
    · simp
theorem mem_srt {z : α} : ∀ {l : List α}, z ∈ srt lt l ↔ z ∈ l
  | [] => by simp [srt]
  | x :: l => by simp only [srt, mem_ins, mem_srt, List.mem_cons]
theorem ins_len {x : α} : ∀ {l : List α}, (ins lt x l).length = l.length + 1
  | [] => rfl
  | y :: l => by
    simp only [ins]
    split
    · simp [ins_len]
    · simp
theorem srt_len : ∀ {l : List α}, (srt lt l).length = l.length
  | [] => rfl
  | x :: l => by simp [srt, ins_len, srt_len]
theorem AllOk.srt {l : List α} (h : AllOk ok l) : AllOk ok (srt lt l) := fun x hx => h x (mem_srt.1 hx)
theorem sorted_ins (H : Swo ok lt) {x : α} (hx : ok x) : ∀ {l : List α}, AllOk ok l → Srt lt l → Srt lt (ins lt x l)
  | [], _, _ => by simp [ins, Srt]
  | y :: l, hl, h => by
    have h := List.pairwise_cons.1 h
    have hy := hl y (by simp)
    have hl' : AllOk ok l := fun z hz => hl z (by simp [hz])
    simp only [ins]
    split
    · rename_i hc
      refine List.pairwise_cons.2 ⟨fun z hz => ?_, sorted_ins H hx hl' h.2⟩
      rcases mem_ins.1 hz with rfl | hz
      · exact H.asym _ _ hy hx hc
      · exact h.1 z hz
    · rename_i hc
      simp only [Bool.not_eq_true] at hc
      refine List.pairwise_cons.2 ⟨fun z hz => ?_, List.pairwise_cons.2 h⟩
      rcases List.mem_cons.1 hz with rfl | hz
      · exact hc
      · exact H.ntrans z y x (hl' z hz) hy hx (h.1 z hz) hc
theorem sorted_srt (H : Swo ok lt) : ∀ {l : List α}, AllOk ok l → Srt lt (srt lt l)
  | [], _ => List.Pairwise.nil
  | x :: l, h => sorted_ins H (h x (by simp)) (AllOk.srt fun z hz => h z (by simp [hz])) (sorted_srt H fun z hz => h z (by simp [hz]))
theorem ins_front {x : α} : ∀ {l : List α}, (∀ y ∈ l, lt y x = false) → ins lt x l = x :: l
  | [], _ => rfl
  | y :: l, h => by simp [ins, h y (by simp)]
theorem srt_id : ∀ {l : List α}, Srt lt l → srt lt l = l
  | [], _ => rfl
  | x :: l, h => by
    have h := List.pairwise_cons.1 h
    simp only [srt]
    rw [srt_id h.2, ins_front h.1]
theorem ins_append {x : α} : ∀ {l l2 : List α}, (∀ y ∈ l2, lt y x = false) → ins lt x (l ++ l2) = ins lt x l ++ l2
  | [], l2, h => by simp [ins, ins_front h]
  | y :: l, l2, h => by
    simp only [ins, List.cons_append]
    split
    · rw [ins_append h]; rfl
    · rfl
theorem srt_append : ∀ {a b : List α}, (∀ x ∈ a, ∀ y ∈ b, lt y x = false) → srt lt (a ++ b) = srt lt a ++ srt lt b
  | [], b, _ => rfl
  | x :: a, b, h => by
    simp only [List.cons_append, srt]
    rw [srt_append fun z hz => h z (by simp [hz]), ins_append fun y hy => h x (by simp) y (mem_srt.1 hy)]
theorem ins_comm (H : Swo ok lt) {x y : α} (hx : ok x) (hy : ok y) (hlt : lt y x = true) : ∀ {l : List α}, AllOk ok l → ins lt x (ins lt y l) = ins lt y (ins lt x l)
  | [], _ => by simp [ins, hlt, H.asym _ _ hy hx hlt]
  | z :: l, hl => by
    have hz := hl z (by simp)
    have ih := ins_comm H hx hy hlt (l := l) fun w hw => hl w (by simp [hw])
    have h0 := H.asym _ _ hy hx hlt
    by_cases h1 : lt z y = true
    · have h2 := H.trans hz hy hx h1 hlt
      simp [ins, h1, h2, ih]
    · simp only [Bool.not_eq_true] at h1
      by_cases h2 : lt z x = true
      · simp [ins, h1, h2, hlt]
      · simp only [Bool.not_eq_true] at h2
        simp [ins, h1, h2, hlt, h0]
theorem srt_pre {l l' : List α} (h : srt lt l = srt lt l') : ∀ (p : List α), srt lt (p ++ l) = srt lt (p ++ l')
  | [] => h
  | x :: p => by simp only [List.cons_append, srt, srt_pre h p]
theorem srt_swap1 (H : Swo ok lt) {x : α} (hx : ok x) : ∀ {b t : List α}, AllOk ok b → AllOk ok t → (∀ y ∈ b, lt y x = true) → srt lt (x :: (b ++ t)) = srt lt (b ++ x :: t)
  | [], t, _, _, _ => rfl
  | y :: b, t, hb, ht, h => by
    have hb' : AllOk ok b := fun z hz => hb z (by simp [hz])
    have ih := srt_swap1 H hx hb' ht fun z hz => h z (by simp [hz])
    have hbt : AllOk ok (srt lt (b ++ t)) := AllOk.srt fun z hz => by
      rcases List.mem_append.1 hz with hz | hz
      · exact hb' z hz
      · exact ht z hz
    simp only [List.cons_append, srt] at ih ⊢
    rw [ins_comm H hx (hb y (by simp)) (h y (by simp)) hbt, ih]
theorem AllOk.app {a b : List α} : AllOk ok (a ++ b) ↔ AllOk ok a ∧ AllOk ok b := by
  simp only [AllOk, List.mem_append]
  exact ⟨fun h => ⟨fun x hx => h x (.inl hx), fun x hx => h x (.inr hx)⟩, fun h x hx => hx.elim (h.1 x) (h.2 x)⟩
theorem AllOk.cons {x : α} {b : List α} : AllOk ok (x :: b) ↔ ok x ∧ AllOk ok b := by simp [AllOk]
/-- Two neighbouring parts change places: every one of the second is less than every one of the first. -/
theorem srt_swap (H : Swo ok lt) : ∀ {a b t : List α}, AllOk ok a → AllOk ok b → AllOk ok t → (∀ x ∈ a, ∀ y ∈ b, lt y x = true) → srt lt (a ++ (b ++ t)) = srt lt (b ++ (a ++ t))
  | [], b, t, _, _, _, _ => rfl
  | x :: a, b, t, ha, hb, ht, h => by
    have ha' := AllOk.cons.1 ha
    have ih := srt_swap H (t := t) ha'.2 hb ht fun z hz => h z (by simp [hz])
    have e := srt_swap1 H (t := a ++ t) ha'.1 hb (AllOk.app.2 ⟨ha'.2, ht⟩) (h x (by simp))
    simp only [List.cons_append] at *
    rw [← e]
    exact srt_pre ih [x]
/-! ### a part of a row, sorted; parts of a row that are moved -/
def srtW (lt : α → α → Bool) (a b : Nat) (l : List α) : List α := l.take a ++ (srt lt ((l.take b).drop a) ++ l.drop b)
def rotL (l : List α) (a m b : Nat) : List α := l.take a ++ ((l.take b).drop m ++ ((l.take m).drop a ++ l.drop b))
def swpL (l : List α) (a b n : Nat) : List α := l.take a ++ ((l.take (b + n)).drop b ++ ((l.take b).drop (a + n) ++ ((l.take (a + n)).drop a ++ l.drop (b + n))))
theorem srtW_at {p w t : List α} {a b : Nat} (h1 : p.length = a) (h2 : a + w.length = b) : srtW lt a b (p ++ (w ++ t)) = p ++ (srt lt w ++ t) := by
  subst h1 h2
  unfold srtW
  simp [List.take_append, List.drop_append]
theorem take_at {p t : List α} {a : Nat} (h : p.length = a) : (p ++ t).take a = p := List.take_left' h
theorem drop_at {p t : List α} {a : Nat} (h : p.length = a) : (p ++ t).drop a = t := List.drop_left' h
theorem rotL_at {p x y t : List α} {a m b : Nat} (h1 : p.length = a) (h2 : a + x.length = m) (h3 : m + y.length = b) : rotL (p ++ (x ++ (y ++ t))) a m b = p ++ (y ++ (x ++ t)) := by
  unfold rotL
  have e1 : p ++ (x ++ (y ++ t)) = ((p ++ x) ++ y) ++ t := by simp
  have e2 : p ++ (x ++ (y ++ t)) = (p ++ x) ++ (y ++ t) := by simp
  have f1 : (p ++ (x ++ (y ++ t))).take a = p := take_at h1
  have f2 : ((p ++ (x ++ (y ++ t))).take b).drop m = y := by rw [e1, take_at (by simp; omega), drop_at (by simp; omega)]
  have f3 : ((p ++ (x ++ (y ++ t))).take m).drop a = x := by rw [e2, take_at (by simp; omega), drop_at h1]
  have f4 : (p ++ (x ++ (y ++ t))).drop b = t := by rw [e1, drop_at (by simp; omega)]
  rw [f1, f2, f3, f4]
theorem swpL_at {p x q y t : List α} {a b n : Nat} (h1 : p.length = a) (h2 : x.length = n) (h3 : y.length = n) (h4 : a + n + q.length = b) : swpL (p ++ (x ++ (q ++ (y ++ t)))) a b n = p ++ (y ++ (q ++ (x ++ t))) := by
  unfold swpL
  have e1 : p ++ (x ++ (q ++ (y ++ t))) = (((p ++ x) ++ q) ++ y) ++ t := by simp
  have e2 : p ++ (x ++ (q ++ (y ++ t))) = ((p ++ x) ++ q) ++ (y ++ t) := by simp
  have e3 : p ++ (x ++ (q ++ (y ++ t))) = (p ++ x) ++ (q ++ (y ++ t)) := by simp
  have f1 : (p ++ (x ++ (q ++ (y ++ t)))).take a = p := take_at h1
  have f2 : ((p ++ (x ++ (q ++ (y ++ t)))).take (b + n)).drop b = y := by rw [e1, take_at (by simp; omega), drop_at (by simp; omega)]
  have f3 : ((p ++ (x ++ (q ++ (y ++ t)))).take b).drop (a + n) = q := by rw [e2, take_at (by simp; omega), drop_at (by simp; omega)]
  have f4 : ((p ++ (x ++ (q ++ (y ++ t)))).take (a + n)).drop a = x := by rw [e3, take_at (by simp; omega), drop_at h1]
  have f5 : (p ++ (x ++ (q ++ (y ++ t)))).drop (b + n) = t := by rw [e1, drop_at (by simp; omega)]
  rw [f1, f2, f3, f4, f5]
/-- A row in parts. -/
theorem cut2 (l : List α) {a b : Nat} (h1 : a ≤ b) (h2 : b ≤ l.length) : ∃ p w t, l = p ++ (w ++ t) ∧ p.length = a ∧ a + w.length = b :=
  ⟨l.take a, (l.take b).drop a, l.drop b, by
    have : (l.take b).take a = l.take a := by rw [List.take_take, Nat.min_eq_left h1]
    rw [← List.append_assoc, ← this, List.take_append_drop, List.take_append_drop], by simp; omega, by simp; omega⟩
theorem cut1 (l : List α) {a : Nat} (h : a ≤ l.length) : ∃ p t, l = p ++ t ∧ p.length = a := ⟨l.take a, l.drop a, (List.take_append_drop a l).symm, by simp; omega⟩
theorem srtW_len {l : List α} {a b : Nat} (h1 : a ≤ b) (h2 : b ≤ l.length) : (srtW lt a b l).length = l.length := by
  obtain ⟨p, w, t, rfl, h3, h4⟩ := cut2 l h1 h2
  rw [srtW_at h3 h4]; simp [srt_len]
theorem rotL_len {l : List α} {a m b : Nat} (h0 : a ≤ m) (h1 : m ≤ b) (h2 : b ≤ l.length) : (rotL l a m b).length = l.length := by
  unfold rotL; simp; omega
theorem swpL_len {l : List α} {a b n : Nat} (h0 : a + n ≤ b) (h2 : b + n ≤ l.length) : (swpL l a b n).length = l.length := by
  unfold swpL; simp; omega
theorem rotL_none {l : List α} {a m b : Nat} (h0 : a ≤ m) (h1 : m ≤ b) (h2 : b ≤ l.length) (h : a = m ∨ m = b) : rotL l a m b = l := by
  obtain ⟨p, w, t, rfl, h3, h4⟩ := cut2 l (Nat.le_trans h0 h1) h2
  obtain ⟨x, y, rfl, h5⟩ := cut1 w (a := m - a) (by omega)
  have hl : x.length + y.length = b - a := by simp at h4; omega
  simp only [List.append_assoc]
  rw [rotL_at h3 (by omega) (by omega)]
  rcases h with h | h
  · have : x = [] := List.eq_nil_of_length_eq_zero (by omega)
    subst this; simp
  · have : y = [] := List.eq_nil_of_length_eq_zero (by omega)
    subst this; simp
/-- One swap of neighbours. -/
theorem set_swap {p t : List α} {x y z : α} {j : Nat} (h : p.length + 1 = j) : ((p ++ x :: y :: t).set j ((p ++ x :: y :: t).getD (j - 1) z)).set (j - 1) ((p ++ x :: y :: t).getD j z) = p ++ y :: x :: t := by
  subst h
  simp [List.getD, List.set_append, List.getElem?_append]
theorem getD_at {p t : List α} {x z : α} {j : Nat} (h : p.length = j) : (p ++ x :: t).getD j z = x := by
  subst h; simp [List.getD]
end
end Go.Proofs.Ytjgjcggecikdpaa
