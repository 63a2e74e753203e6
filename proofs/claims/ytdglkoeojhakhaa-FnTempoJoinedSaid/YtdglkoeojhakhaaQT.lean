/- Plain laws: positions of beats as rational numbers; a joined tempo map plays like the first one, and then like the second one. Conditions: as each says. -/
import Derived.Test.YtdglkoeojhakhaaQL
import Derived.Test.YtdglkoeojhakhaaGj
set_option linter.unusedSimpArgs false
set_option linter.unusedVariables false
namespace Go.Proofs.Ytdglkoeojhakhaa
open Go.RowKit Sx
theorem qF_int (s : Int) : qF (s, 1) = (s : Rat) := by unfold qF; show (s : Rat) / ((1 : Int) : Rat) = (s : Rat); have : ((1 : Int) : Rat) = 1 := rfl; rw [this]; grind
theorem onF_q {b u p : Fr} {s : Int} (hb : okF b.1 b.2 = true) (hu : okF u.1 u.2 = true) (hp : okF p.1 p.2 = true) (hs : 1 ≤ s ∧ s ≤ 1000) (h : (onF b u s p).2 = 0) :
    qF (onF b u s p).1 = qF p + (qF u - qF b) * (s : Rat) := by
  have h1 := subF_ok hu hb
  unfold onF at *
  split at h
  · rename_i hd
    have h1 := h1.resolve_right (by omega)
    have h2 := mulF_ok h1.2 (okF_int (n := s) (by omega))
    rw [if_pos hd]
    split at h
    · rename_i hm
      have h2 := h2.resolve_right (by omega)
      rw [if_pos hm]
      rw [addF_q hp h2.2 h]
      have e2 := mulF_q (b := (s, 1)) h1.2 (okF_int (n := s) (by omega)) hm
      rw [e2, subF_q hu hb hd, qF_int]
    · rename_i hm
      exact absurd h hm
  · rename_i hd
    exact absurd h hd
/-- The position of a beat that is not ahead of the first tempo. -/
def posQ : List tTempo.den → Rat → Rat
  | [], _ => 0
  | [x], b => (b - qF x.1) * (x.2 : Rat)
  | x :: y :: r, b => if b < qF y.1 then (b - qF x.1) * (x.2 : Rat) else (qF y.1 - qF x.1) * (x.2 : Rat) + posQ (y :: r) b
theorem drop_tAt (ts : List tTempo.den) (i : Nat) (h : i < ts.length) : ts.drop i = tAt ts i :: ts.drop (i + 1) := by
  unfold tAt
  rw [List.drop_eq_getElem_cons h, getD_lt _ _ _ h]
theorem cmp_q {a b : Fr} (ha : okF a.1 a.2 = true) (hb : okF b.1 b.2 = true) : 0 < cmpB a b ↔ qF b < qF a := by
  rw [← qF_le (okF_den hb).2 (okF_den ha).2, cmpB_gt, cmpB_lt]
theorem posGo_q {ts : List tTempo.den} (ho : Ord ts) {beat : Fr} (hb : okF beat.1 beat.2 = true) : ∀ (n i : Nat) (p : Fr), i + n = ts.length → 0 < n → okF p.1 p.2 = true →
    (posGo ts beat n i p).2 = 0 → qF (posGo ts beat n i p).1 = qF p + posQ (ts.drop i) (qF beat)
  | 0, _, _, _, h, _, _ => absurd h (by omega)
  | n + 1, i, p, hi, _, hp, h => by
    have g := goodT_ok (ho i (by omega)).1
    rw [drop_tAt ts i (by omega)]
    unfold posGo at *
    by_cases hc : i + 1 = ts.length ∨ 0 < cmpB (tAt ts (i + 1)).1 beat
    · rw [if_pos hc] at h ⊢
      rw [onF_q g.1 hb hp g.2.2 h]
      by_cases he : i + 1 = ts.length
      · rw [List.drop_eq_nil_of_le (by omega)]; rfl
      · rw [drop_tAt ts (i + 1) (by omega)]
        have g1 := goodT_ok (ho (i + 1) (by omega)).1
        have hlt := (cmp_q g1.1 hb).mp (hc.resolve_left he)
        unfold posQ
        rw [if_pos hlt]
    · rw [if_neg hc] at h ⊢
      have he : i + 1 < ts.length := by omega
      have g1 := goodT_ok (ho (i + 1) he).1
      have hnl : ¬ qF beat < qF (tAt ts (i + 1)).1 := fun hh => hc (.inr ((cmp_q g1.1 hb).mpr hh))
      by_cases hz : (onF (tAt ts i).1 (tAt ts (i + 1)).1 (tAt ts i).2 p).2 = 0
      · rw [if_pos hz] at h ⊢
        have hk := (onF_ok g.1 g1.1 hp g.2.2).resolve_right (by omega)
        rw [posGo_q ho hb n (i + 1) _ (by omega) (by omega) hk.2 h, onF_q g.1 g1.1 hp g.2.2 hz]
        rw [drop_tAt ts (i + 1) he]
        conv => rhs; rhs; unfold posQ
        rw [if_neg hnl]
        grind
      · rw [if_neg hz] at h
        exact absurd h hz
theorem posF_q {ts : List tTempo.den} {b : Fr} (h : (posF ts b).2 = 0) : askF ts b = 0 ∧ okF (posF ts b).1.1 (posF ts b).1.2 = true ∧ qF (posF ts b).1 = posQ ts (qF b) := by
  have hk := (posF_ok ts b).resolve_right (by omega)
  unfold posF at *
  by_cases ha : askF ts b = 0
  · rw [if_pos ha] at h hk ⊢
    by_cases hz : (posGo ts b ts.length 0 (0, 1)).2 = 0
    · rw [if_pos hz] at hk ⊢
      obtain ⟨g1, g2, g3⟩ := askF_zero ha
      obtain ⟨h1, h2, h3, h4, h5⟩ := tmap_spec g1
      refine ⟨ha, hk.2, ?_⟩
      rw [posGo_q h3 g2 ts.length 0 (0, 1) (by omega) (by omega) okF_01 hz, qF_int]
      show ((0 : Int) : Rat) + _ = _
      have : ((0 : Int) : Rat) = 0 := rfl
      rw [this, Rat.zero_add, List.drop_zero]
    · rw [if_neg hz] at h
      exact absurd h (by simp)
  · rw [if_neg ha] at h
    exact absurd h ha
theorem posQ_app (y : tTempo.den) (r : List tTempo.den) (b : Rat) (hb : qF y.1 ≤ b) : ∀ (p : tTempo.den) (P : List tTempo.den), (∀ x ∈ p :: P, qF x.1 < qF y.1) →
    posQ (p :: P ++ y :: r) b = posQ (p :: P) (qF y.1) + posQ (y :: r) b
  | p, [], _ => by
    show posQ (p :: y :: r) b = posQ [p] (qF y.1) + posQ (y :: r) b
    conv => lhs; unfold posQ
    rw [if_neg (by grind)]
    rfl
  | p, q :: P, h => by
    have hq := h q (by simp)
    have ih := posQ_app y r b hb q P fun x hx => h x (by simp at hx ⊢; exact .inr hx)
    show posQ (p :: q :: (P ++ y :: r)) b = posQ (p :: q :: P) (qF y.1) + posQ (y :: r) b
    have e1 : posQ (p :: q :: (P ++ y :: r)) b = (qF q.1 - qF p.1) * (p.2 : Rat) + posQ (q :: (P ++ y :: r)) b := by
      conv => lhs; unfold posQ
      rw [if_neg (by grind)]
    have e2 : posQ (p :: q :: P) (qF y.1) = (qF q.1 - qF p.1) * (p.2 : Rat) + posQ (q :: P) (qF y.1) := by
      conv => lhs; unfold posQ
      rw [if_neg (by grind)]
    have ih' : posQ (q :: (P ++ y :: r)) b = posQ (q :: P) (qF y.1) + posQ (y :: r) b := ih
    rw [e1, e2, ih']
    grind
theorem posQ_lt (y : tTempo.den) (r : List tTempo.den) (b : Rat) (hb : b < qF y.1) : ∀ (p : tTempo.den) (P : List tTempo.den), posQ (p :: P ++ y :: r) b = posQ (p :: P) b
  | p, [] => by
    show posQ (p :: y :: r) b = posQ [p] b
    conv => lhs; unfold posQ
    rw [if_pos hb]
    rfl
  | p, q :: P => by
    have ih : posQ (q :: (P ++ y :: r)) b = posQ (q :: P) b := posQ_lt y r b hb q P
    show posQ (p :: q :: (P ++ y :: r)) b = posQ (p :: q :: P) b
    unfold posQ
    rw [ih]
theorem posQ_start (y : tTempo.den) (r : List tTempo.den) (h : ∀ x ∈ r, qF y.1 < qF x.1) : posQ (y :: r) (qF y.1) = 0 := by
  cases r with
  | nil => unfold posQ; grind
  | cons z r => unfold posQ; rw [if_pos (h z (by simp))]; grind
theorem posQ_map (f : tTempo.den → tTempo.den) (a b : Rat) : ∀ us : List tTempo.den, (∀ x ∈ us, qF (f x).1 = qF x.1 + a ∧ (f x).2 = x.2) → posQ (us.map f) b = posQ us (b - a)
  | [], _ => rfl
  | [x], h => by
    have hx := h x (by simp)
    show (b - qF (f x).1) * ((f x).2 : Rat) = (b - a - qF x.1) * (x.2 : Rat)
    rw [hx.1, hx.2]; grind
  | x :: y :: r, h => by
    have hx := h x (by simp)
    have hy := h y (by simp)
    have ih : posQ (f y :: r.map f) b = posQ (y :: r) (b - a) := posQ_map f a b (y :: r) fun z hz => h z (by simp at hz ⊢; exact .inr hz)
    show posQ (f x :: f y :: r.map f) b = posQ (x :: y :: r) (b - a)
    unfold posQ
    rw [ih, hx.1, hx.2, hy.1]
    by_cases hc : b < qF y.1 + a
    · rw [if_pos hc, if_pos (by grind)]; grind
    · rw [if_neg hc, if_neg (by grind)]; grind
theorem ord_pair {ts : List tTempo.den} (h : Ord ts) : ts.Pairwise fun x y => qF x.1 < qF y.1 := by
  rw [List.pairwise_iff_getElem]
  intro i j hi hj hij
  have e := h.lt (j - i - 1) i (by omega)
  rw [show i + (j - i - 1) + 1 = j by omega] at e
  have g0 := goodT_ok (h i hi).1
  have g1 := goodT_ok (h j hj).1
  have e := (qF_le (okF_den g0.1).2 (okF_den g1.1).2).mp e
  unfold tAt at e
  rw [getD_lt _ _ _ hi, getD_lt _ _ _ hj] at e
  exact e
theorem split_lt {ts : List tTempo.den} (f : tTempo.den → Bool) (hf : ∀ x y : tTempo.den, qF x.1 < qF y.1 → f y = true → f x = true) :
    ts.Pairwise (fun x y => qF x.1 < qF y.1) → ts = ts.filter f ++ ts.filter (fun x => !f x) := by
  induction ts with
  | nil => intro _; rfl
  | cons x ts ih =>
    intro h
    rw [List.pairwise_cons] at h
    by_cases hx : f x = true
    · rw [List.filter_cons, if_pos hx, List.filter_cons, if_neg (by simp [hx])]
      show x :: ts = x :: (_ ++ _)
      rw [← ih h.2]
    · have e1 : ts.filter f = [] := by
        rw [List.filter_eq_nil_iff]
        intro y hy hfy
        exact hx (hf x y (h.1 y hy) hfy)
      have e2 : ts.filter (fun x => !f x) = ts := by
        rw [List.filter_eq_self]
        intro y hy
        have : f y ≠ true := fun hfy => hx (hf x y (h.1 y hy) hfy)
        simp [this]
      rw [List.filter_cons, if_neg hx, List.filter_cons, if_pos (by simp [hx]), e1, e2]
      rfl
theorem join_q {ts us : List tTempo.den} {a : Rat} (f : tTempo.den → tTempo.den) (h0 : 0 ≤ a) (hts : ts.Pairwise fun x y => qF x.1 < qF y.1)
    (ht : ∃ t tr, ts = t :: tr ∧ qF t.1 = 0) (hu : ∃ y ur, us = y :: ur ∧ qF y.1 = 0) (hf : ∀ x ∈ us, qF (f x).1 = qF x.1 + a ∧ (f x).2 = x.2)
    (hl : (ts.filter (fun x => decide (qF x.1 < a)) ++ us.map f).Pairwise fun x y => qF x.1 < qF y.1) :
    (∀ B, 0 ≤ B → B ≤ a → posQ (ts.filter (fun x => decide (qF x.1 < a)) ++ us.map f) B = posQ ts B) ∧
    (∀ B, a ≤ B → posQ (ts.filter (fun x => decide (qF x.1 < a)) ++ us.map f) B = posQ ts a + posQ us (B - a)) := by
  obtain ⟨t, tr, et, zt⟩ := ht
  obtain ⟨y0, ur, eu, zu⟩ := hu
  have hs := split_lt (fun x => decide (qF x.1 < a)) (fun x y h1 h2 => by simp only [decide_eq_true_eq] at *; grind) hts
  have hP : ∀ x ∈ ts.filter (fun x => decide (qF x.1 < a)), qF x.1 < a := fun x hx => by simpa using (List.mem_filter.mp hx).2
  have hS : ∀ x ∈ ts.filter (fun x => !decide (qF x.1 < a)), a ≤ qF x.1 := fun x hx => by
    have := (List.mem_filter.mp hx).2
    simp only [Bool.not_eq_true', decide_eq_false_iff_not] at this
    grind
  have hempty : ts.filter (fun x => decide (qF x.1 < a)) = [] → a = 0 := fun e => by
    have := List.filter_eq_nil_iff.mp e t (by rw [et]; simp)
    simp only [decide_eq_true_eq] at this
    grind
  have hts0 : posQ ts 0 = 0 := by
    rw [et, List.pairwise_cons] at hts
    have := posQ_start t tr hts.1
    rw [zt] at this
    rw [et]
    exact this
  have hmap := posQ_map f a
  have hsp : (ts.filter (fun x => !decide (qF x.1 < a))).Pairwise fun x y => qF x.1 < qF y.1 := hts.filter _
  generalize ts.filter (fun x => decide (qF x.1 < a)) = P at *
  generalize ts.filter (fun x => !decide (qF x.1 < a)) = S at *
  have hy := hf y0 (by rw [eu]; simp)
  have ey : us.map f = f y0 :: ur.map f := by rw [eu]; rfl
  have qy : qF (f y0).1 = a := by rw [hy.1, zu]; grind
  have hr : ∀ x ∈ ur.map f, qF (f y0).1 < qF x.1 := by
    rw [ey] at hl
    have := (List.pairwise_append.mp hl).2.1
    rw [List.pairwise_cons] at this
    exact this.1
  have st := posQ_start (f y0) (ur.map f) hr
  rw [qy] at st
  cases P with
  | nil =>
    have ha := hempty rfl
    constructor
    · intro B b0 b1
      have hB : B = 0 := by grind
      rw [List.nil_append, ey, hB, hts0]
      rw [ha] at st
      exact st
    · intro B b1
      rw [List.nil_append, hmap B us hf, ha, hts0]
      grind
  | cons p P =>
    have hPts : ∀ B, B ≤ a → posQ ts B = posQ (p :: P) B := by
      intro B hB
      rw [hs]
      cases S with
      | nil => rw [List.append_nil]
      | cons z S =>
        have hz := hS z (by simp)
        by_cases hlt : B < qF z.1
        · exact posQ_lt z S B hlt p P
        · have e : B = qF z.1 := by grind
          rw [posQ_app z S B (by grind) p P (fun x hx => by have := hP x hx; grind)]
          rw [List.pairwise_cons] at hsp
          have := posQ_start z S hsp.1
          rw [e, this]
          grind
    constructor
    · intro B b0 b1
      rw [hPts B b1, ey]
      by_cases hlt : B < a
      · exact posQ_lt (f y0) (ur.map f) B (by rw [qy]; exact hlt) p P
      · have e : B = a := by grind
        rw [posQ_app (f y0) (ur.map f) B (by rw [qy]; grind) p P (fun x hx => by rw [qy]; exact hP x hx), qy, e, st]
        grind
    · intro B b1
      rw [hPts a (by grind), ← hmap B us hf, ey]
      rw [posQ_app (f y0) (ur.map f) B (by rw [qy]; exact b1) p P (fun x hx => by rw [qy]; exact hP x hx), qy]
theorem addF_bad {a b : Fr} (ha : okF a.1 a.2 = true) (hb : okF b.1 b.2 = true) (h : okF (addF a.1 a.2 b.1 b.2).1.1 (addF a.1 a.2 b.1 b.2).1.2 = true) : (addF a.1 a.2 b.1 b.2).2 = 0 := by
  have e : addF a.1 a.2 b.1 b.2 = mkF (a.1 * b.2 + b.1 * a.2) (a.2 * b.2) := by
    unfold addF opF
    rw [ha, hb]; rfl
  rw [e] at h ⊢
  rcases mkF_code _ _ (mul_ne ha hb) with h1 | ⟨_, h1⟩
  · exact h1
  · rw [h1] at h
    exact absurd h (by decide)
theorem first_zero {ts : List tTempo.den} (h : tmapF ts = true) : ∃ t tr, ts = t :: tr ∧ qF t.1 = 0 := by
  obtain ⟨h1, _, _, _, h5⟩ := tmap_spec h
  refine ⟨tAt ts 0, ts.drop 1, by have := drop_tAt ts 0 (by omega); simpa using this, ?_⟩
  unfold qF
  rw [h5]
  show ((0 : Int) : Rat) / _ = 0
  have : ((0 : Int) : Rat) = 0 := rfl
  rw [this]
  grind
theorem qF_nonneg {a : Fr} (h : okF a.1 a.2 = true) (h0 : 0 ≤ a.1) : 0 ≤ qF a := by
  have h1 := cast_pos (okF_den h).2
  have h2 : (0 : Rat) ≤ (a.1 : Rat) := by exact_mod_cast h0
  unfold qF
  rw [Rat.div_def]
  exact Rat.mul_nonneg h2 (Rat.le_of_lt (Rat.inv_pos.mpr h1))
theorem join_spec {ts us : List tTempo.den} {a : Fr} (h : (joinF ts a.1 a.2 us).2 = 0) :
    (joinF ts a.1 a.2 us).1 = keepLt ts a.1 a.2 ++ shiftL us a.1 a.2 ∧ tmapF (keepLt ts a.1 a.2 ++ shiftL us a.1 a.2) = true ∧ bcF [ts, us] (a.1, a.2) = 0 := by
  unfold joinF at *
  by_cases hb : bcF [ts, us] (a.1, a.2) ≠ 0
  · rw [if_pos hb] at h; exact absurd h hb
  · rw [if_neg hb] at h ⊢
    unfold tendF at *
    split at h
    · simp at h
    · rename_i h8
      rw [if_neg h8]
      split at h
      · rename_i ht
        rw [if_pos ht]
        exact ⟨rfl, ht, by omega⟩
      · simp at h
theorem mem_ord {ts : List tTempo.den} (h : Ord ts) {x : tTempo.den} (hx : x ∈ ts) : goodT x = true := by
  obtain ⟨i, hi, e⟩ := List.getElem_of_mem hx
  have := (h i hi).1
  unfold tAt at this
  rw [getD_lt _ _ _ hi, e] at this
  exact this
/-- A joined tempo map plays like the first one up to the beat, and then like the second one. -/
theorem join_pos {ts us : List tTempo.den} {a : Fr} (h : (joinF ts a.1 a.2 us).2 = 0) :
    (∀ B, 0 ≤ B → B ≤ qF a → posQ (joinF ts a.1 a.2 us).1 B = posQ ts B) ∧ (∀ B, qF a ≤ B → posQ (joinF ts a.1 a.2 us).1 B = posQ ts (qF a) + posQ us (B - qF a)) := by
  obtain ⟨e, ht, hb⟩ := join_spec h
  obtain ⟨⟨⟨m1, m2⟩, m3⟩, m4⟩ := bcF_two hb
  obtain ⟨_, _, o1, _, _⟩ := tmap_spec m1
  obtain ⟨_, _, o2, _, _⟩ := tmap_spec m2
  obtain ⟨_, _, o3, _, _⟩ := tmap_spec ht
  have ek : keepLt ts a.1 a.2 = ts.filter (fun x => decide (qF x.1 < qF a)) := by
    unfold keepLt
    apply List.filter_congr
    intro x hx
    have g := goodT_ok (mem_ord o1 hx)
    have := qF_le (a := x.1) (b := a) (okF_den g.1).2 (okF_den m3).2
    simp only [decide_eq_decide]
    exact this
  have hf : ∀ x ∈ us, qF (shiftT a.1 a.2 x).1 = qF x.1 + qF a ∧ (shiftT a.1 a.2 x).2 = x.2 := by
    intro x hx
    have g := goodT_ok (mem_ord o2 hx)
    have g3 := goodT_ok (mem_ord o3 (x := shiftT a.1 a.2 x) (List.mem_append_right _ (List.mem_map_of_mem hx)))
    refine ⟨?_, rfl⟩
    exact addF_q g.1 m3 (addF_bad g.1 m3 g3.1)
  have hl := ord_pair o3
  rw [e]
  unfold shiftL at *
  rw [ek] at hl ⊢
  exact join_q (shiftT a.1 a.2) (qF_nonneg m3 m4.1) (ord_pair o1) (first_zero m1) (first_zero m2) hf hl
end Go.Proofs.Ytdglkoeojhakhaa
