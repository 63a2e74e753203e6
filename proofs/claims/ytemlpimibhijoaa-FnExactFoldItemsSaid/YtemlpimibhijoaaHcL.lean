/- The plain law of played items: a list is taken apart into items and groups; counts, moves, flat lists. Conditions: as each says. -/
import Derived.Test.YtemlpimibhijoaaHb
set_option linter.unusedSimpArgs false
set_option linter.unusedVariables false
namespace Go.Proofs.Ytemlpimibhijoaa
open Go.RowKit Sx
def mvN (s o i : Int) : Int := 7 * o + s + i
def mvA (s a o i j : Int) : Int := keyF s a o + j - keyF (mvN s o i % 7) 0 (mvN s o i / 7)
def moveF (s a o i j : Int) : (Int × Int × Int) × Int :=
  if okP s a o = true ∧ okI i j = true then (if okP (mvN s o i % 7) (mvA s a o i j) (mvN s o i / 7) = true then ((mvN s o i % 7, mvA s a o i j, mvN s o i / 7), 0) else ((0, 0, 0), 2)) else ((0, 0, 0), 1)
abbrev Its := List tItem.den
abbrev It := tItem.den
def szN (x : It) : Nat := (szB x).toNat
section
variable {β : Type} (z : β) (f : It → β → β) (g : It → β → β → β)
def itRec : Nat → Its → β
  | 0, _ => z
  | _ + 1, [] => z
  | n + 1, x :: t => if grpB x = true then g x (itRec n (t.take (szN x))) (itRec n (t.drop (szN x))) else f x (itRec n t)
theorem itRec_fuel : ∀ (n m : Nat) (l : Its), l.length ≤ n → l.length ≤ m → itRec z f g n l = itRec z f g m l
  | 0, m, l, h, _ => by
    have : l = [] := List.eq_nil_of_length_eq_zero (by omega)
    subst this
    cases m <;> rfl
  | n + 1, 0, l, _, h => by
    have : l = [] := List.eq_nil_of_length_eq_zero (by omega)
    subst this; rfl
  | n + 1, m + 1, [], _, _ => rfl
  | n + 1, m + 1, x :: t, h1, h2 => by
    simp only [List.length_cons] at h1 h2
    have l1 : (t.take (szN x)).length ≤ t.length := by simp; omega
    have l2 : (t.drop (szN x)).length ≤ t.length := by simp
    simp only [itRec]
    rw [itRec_fuel n m (t.take (szN x)) (by omega) (by omega), itRec_fuel n m (t.drop (szN x)) (by omega) (by omega), itRec_fuel n m t (by omega) (by omega)]
def itR (l : Its) : β := itRec z f g l.length l
theorem itR_nil : itR z f g [] = z := rfl
theorem itR_cons (x : It) (t : Its) : itR z f g (x :: t) = if grpB x = true then g x (itR z f g (t.take (szN x))) (itR z f g (t.drop (szN x))) else f x (itR z f g t) := by
  have l1 : (t.take (szN x)).length ≤ t.length := by simp; omega
  have l2 : (t.drop (szN x)).length ≤ t.length := by simp
  unfold itR
  simp only [List.length_cons, itRec]
  rw [itRec_fuel z f g t.length (t.take (szN x)).length (t.take (szN x)) l1 (Nat.le_refl _), itRec_fuel z f g t.length (t.drop (szN x)).length (t.drop (szN x)) l2 (Nat.le_refl _)]
theorem itR_at (l : Its) (i : Nat) (h : i < l.length) : itR z f g (l.drop i) = if grpB (l.getD i tItem.zero) = true then g (l.getD i tItem.zero) (itR z f g ((l.drop (i + 1)).take (szN (l.getD i tItem.zero)))) (itR z f g (l.drop (i + 1 + szN (l.getD i tItem.zero)))) else f (l.getD i tItem.zero) (itR z f g (l.drop (i + 1))) := by
  rw [List.drop_eq_getElem_cons h, itR_cons, getD_lt _ _ _ h, List.drop_drop]
end
/-- A valid list at a depth. -/
def vl (l : Its) (d : Int) : Prop := rngF l.length l d = true
theorem vl_cons {x : It} {t : Its} {d : Int} (h : vl (x :: t) d) : itSx x = true ∧ (grpB x = false → vl t d) ∧ (grpB x = true → d < 3 ∧ (1 ≤ szB x ∧ szB x ≤ (t.length : Int)) ∧ vl (t.take (szN x)) (d + 1) ∧ vl (t.drop (szN x)) d) := by
  have l1 : (t.take (szN x)).length ≤ t.length := by simp; omega
  have l2 : (t.drop (szN x)).length ≤ t.length := by simp
  unfold vl at *
  simp only [List.length_cons, rngF, Bool.and_eq_true] at h
  refine ⟨h.1, fun hg => ?_, fun hg => ?_⟩
  · rw [if_neg (by rw [hg]; simp)] at h; exact h.2
  · rw [if_pos hg] at h
    simp only [Bool.and_eq_true, decide_eq_true_eq, inB_iff] at h
    refine ⟨h.2.1, h.2.2.1, ?_, ?_⟩
    · rw [rng_fuel (t.take (szN x)).length t.length _ (d + 1) (Nat.le_refl _) l1]; exact h.2.2.2.1
    · rw [rng_fuel (t.drop (szN x)).length t.length _ d (Nat.le_refl _) l2]; exact h.2.2.2.2
theorem vl_at {l : Its} {i : Nat} {d : Int} (h : i < l.length) (hv : vl (l.drop i) d) : itSx (l.getD i tItem.zero) = true ∧ (grpB (l.getD i tItem.zero) = false → vl (l.drop (i + 1)) d) ∧ (grpB (l.getD i tItem.zero) = true → d < 3 ∧ (1 ≤ szB (l.getD i tItem.zero) ∧ szB (l.getD i tItem.zero) ≤ (l.length : Int) - (i + 1)) ∧ vl ((l.drop (i + 1)).take (szN (l.getD i tItem.zero))) (d + 1) ∧ vl (l.drop (i + 1 + szN (l.getD i tItem.zero))) d) := by
  rw [List.drop_eq_getElem_cons h] at hv
  have := vl_cons hv
  rw [getD_lt _ _ _ h]
  refine ⟨this.1, this.2.1, fun hg => ?_⟩
  obtain ⟨h1, h2, h3, h4⟩ := this.2.2 hg
  refine ⟨h1, ⟨h2.1, ?_⟩, h3, ?_⟩
  · have := h2.2; rw [List.length_drop] at this; omega
  · rw [List.drop_drop] at h4; exact h4
/-- Induction over a valid list. -/
theorem vl_ind {m : Its → Int → Prop} (h0 : ∀ d, m [] d) (h1 : ∀ x t d, 0 ≤ d → d ≤ 3 → grpB x = false → itSx x = true → vl t d → m t d → m (x :: t) d)
    (h2 : ∀ x t d, 0 ≤ d → d < 3 → grpB x = true → itSx x = true → 1 ≤ szB x → szB x ≤ (t.length : Int) → vl (t.take (szN x)) (d + 1) → vl (t.drop (szN x)) d → m (t.take (szN x)) (d + 1) → m (t.drop (szN x)) d → m (x :: t) d) :
    ∀ (n : Nat) (l : Its) (d : Int), l.length ≤ n → 0 ≤ d → d ≤ 3 → vl l d → m l d
  | _, [], d, _, _, _, _ => h0 d
  | 0, _ :: _, _, h, _, _, _ => by simp at h
  | n + 1, x :: t, d, h, d0, d3, hv => by
    simp only [List.length_cons] at h
    have l1 : (t.take (szN x)).length ≤ t.length := by simp; omega
    have l2 : (t.drop (szN x)).length ≤ t.length := by simp
    obtain ⟨g1, g2, g3⟩ := vl_cons hv
    cases hg : grpB x
    · exact h1 x t d d0 d3 hg g1 (g2 hg) (vl_ind h0 h1 h2 n t d (by omega) d0 d3 (g2 hg))
    · obtain ⟨k1, k2, k3, k4⟩ := g3 hg
      exact h2 x t d d0 k1 hg g1 k2.1 k2.2 k3 k4 (vl_ind h0 h1 h2 n _ (d + 1) (by omega) (by omega) (by omega) k3) (vl_ind h0 h1 h2 n _ d (by omega) d0 d3 k4)
/-- How often a group is played. -/
def mulB (x : It) : Int := if (x.1 : Int) = 4 then x.2.2.2.1 else 1
theorem itS_fields0 {k a b v m1 m2 z : Int} {ps : List tPitch.den} (h : itS k ps a b v m1 m2 z = true) : ((k = 4 ∨ k = 5) → (1 ≤ (if k = 4 then v else 1) ∧ (if k = 4 then v else 1) ≤ 8) ∧ max 1 v = (if k = 4 then v else 1) ∧ (k = 5 → okI m1 m2 = true)) ∧ (¬ (k = 4 ∨ k = 5) → z = 0) := by
  have hv := inB_iff v 2 8
  simp only [itS, decide_eq_true_eq] at h
  refine ⟨fun hg => ?_, fun hg => ?_⟩
  · rcases h with h | h | h | h | h
    · omega
    · omega
    · omega
    · have := hv.1 h.2.2.2.1
      have h1 := h.1
      rw [if_pos h1]
      exact ⟨by omega, by omega, fun hk => by omega⟩
    · have h1 := h.1
      have h2 := h.2.2.2.1
      rw [if_neg (by omega)]
      exact ⟨by omega, by omega, fun _ => h.2.2.2.2⟩
  · rcases h with h | h | h | h | h
    · exact h.2.2.2.2.2
    · exact h.2.2.2.2.2
    · exact h.2.2.2.2.2
    · exact absurd (.inl h.1) hg
    · exact absurd (.inr h.1) hg
theorem itS_fields {x : It} (h : itSx x = true) : (grpB x = true → (1 ≤ mulB x ∧ mulB x ≤ 8) ∧ max 1 (x.2.2.2.1 : Int) = mulB x ∧ ((x.1 : Int) = 5 → okI x.2.2.2.2.1.1 x.2.2.2.2.1.2 = true)) ∧ (grpB x = false → szB x = 0) := by
  obtain ⟨k, ps, a, b, v, m1, m2, z, rfl⟩ := i8 x
  have g := itS_fields0 h
  refine ⟨fun hg => ?_, fun hg => ?_⟩
  · refine g.1 ?_
    simpa [grpB] using hg
  · refine g.2 ?_
    simpa [grpB] using hg
def cntI : Its → Int := itR 0 (fun _ r => 1 + r) (fun x a r => mulB x * a + r)
def pw (d : Int) : Int := if d = 0 then 512 else if d = 1 then 64 else if d = 2 then 8 else 1
theorem pw_next {d : Int} (h0 : 0 ≤ d) (h : d < 3) : 8 * pw (d + 1) = pw d := by
  obtain rfl | rfl | rfl : d = 0 ∨ d = 1 ∨ d = 2 := by omega
  all_goals rfl
theorem pw_pos (d : Int) : 1 ≤ pw d ∧ pw d ≤ 512 := by
  unfold pw
  split
  · omega
  · split
    · omega
    · split <;> omega
theorem cnt_bd {l : Its} {d : Int} (h0 : 0 ≤ d) (h3 : d ≤ 3) (hv : vl l d) : 0 ≤ cntI l ∧ cntI l ≤ pw d * (l.length : Int) := by
  refine vl_ind (m := fun l d => 0 ≤ cntI l ∧ cntI l ≤ pw d * (l.length : Int)) (fun d => ?_) (fun x t d _ _ hg hs _ ih => ?_) (fun x t d d0 d3 hg hs s1 s2 _ _ ih1 ih2 => ?_) l.length l d (Nat.le_refl _) h0 h3 hv
  · have e : cntI [] = 0 := rfl
    rw [e]; simp
  · have e : cntI (x :: t) = 1 + cntI t := by unfold cntI; rw [itR_cons, if_neg (by rw [hg]; simp)]
    have hp := pw_pos d
    rw [e, List.length_cons, Int.natCast_add, Int.mul_add]
    omega
  · have e : cntI (x :: t) = mulB x * cntI (t.take (szN x)) + cntI (t.drop (szN x)) := by unfold cntI; rw [itR_cons, if_pos hg]
    have hp := pw_pos d
    have hm := ((itS_fields hs).1 hg).1
    have hn := pw_next d0 d3
    have l1 : ((t.take (szN x)).length : Int) = szB x := by simp [szN]; omega
    have l2 : ((t.drop (szN x)).length : Int) = (t.length : Int) - szB x := by simp [szN]; omega
    rw [l1] at ih1
    rw [l2, Int.mul_sub] at ih2
    have e1 : mulB x * cntI (t.take (szN x)) ≤ 8 * cntI (t.take (szN x)) := Int.mul_le_mul_of_nonneg_right hm.2 ih1.1
    have e2 : 0 ≤ mulB x * cntI (t.take (szN x)) := Int.mul_nonneg (by omega) ih1.1
    have e3 : 8 * (pw (d + 1) * szB x) = pw d * szB x := by rw [← Int.mul_assoc, hn]
    rw [e, List.length_cons, Int.natCast_add, Int.mul_add]
    omega
/-! ### moves -/
def mvOk (i j : Int) (p : tPitch.den) : Bool := decide ((moveF p.1 p.2.1 p.2.2 i j).2 = 0)
def mvP (i j : Int) (p : tPitch.den) : tPitch.den := (moveF p.1 p.2.1 p.2.2 i j).1
theorem mvP_ok (i j : Int) (p : tPitch.den) : okPt (mvP i j p) = true := by
  unfold mvP moveF okPt
  split
  · split
    · rename_i h; exact h
    · decide
  · decide
theorem mv_code {i j : Int} {p : tPitch.den} (hp : okPt p = true) (hi : okI i j = true) : (moveF p.1 p.2.1 p.2.2 i j).2 = if mvOk i j p = true then 0 else 2 := by
  have hp' : okP p.1 p.2.1 p.2.2 = true := hp
  unfold mvOk moveF
  rw [if_pos ⟨hp', hi⟩]
  split <;> simp
def mvIt (i j : Int) (y : It) : It := (y.1, (y.2.1 : List tPitch.den).map (mvP i j), y.2.2)
def okIt (i j : Int) (y : It) : Bool := (y.2.1 : List tPitch.den).all (mvOk i j)
def itOk (x y : It) : Bool := (y.2.1 : List tPitch.den).all (mvOk x.2.2.2.2.1.1 x.2.2.2.2.1.2)
def itMv (x y : It) : It := (y.1, (y.2.1 : List tPitch.den).map (mvP x.2.2.2.2.1.1 x.2.2.2.2.1.2), y.2.2)
def mvL (x : It) (l : Its) : Its × Bool := if (x.1 : Int) = 5 then (l.map (itMv x), l.all (itOk x)) else (l, true)
def repL (n : Nat) (l : Its) : Its := (List.replicate n l).flatten
def flatR : Its → Its × Bool := itR ([], true) (fun x r => (x :: r.1, r.2)) (fun x a r => (repL (mulB x).toNat (mvL x a.1).1 ++ r.1, a.2 && ((mvL x a.1).2 && r.2)))
def flatV (l : Its) : Its × Int := if (flatR l).2 = true then ((flatR l).1, 0) else ([], 2)
theorem repL_succ (n : Nat) (l : Its) : repL (n + 1) l = l ++ repL n l := by simp [repL, List.replicate_succ]
theorem repL_len (n : Nat) (l : Its) : (repL n l).length = n * l.length := by simp [repL]
theorem mvL_len (x : It) (l : Its) : (mvL x l).1.length = l.length := by unfold mvL; split <;> simp
theorem mem_repL {n : Nat} {l : Its} {y : It} (h : y ∈ repL n l) : y ∈ l := by
  simp only [repL, List.mem_flatten, List.mem_replicate] at h
  obtain ⟨a, ⟨_, rfl⟩, h⟩ := h
  exact h
theorem flat_len {l : Its} {d : Int} (h0 : 0 ≤ d) (h3 : d ≤ 3) (hv : vl l d) : ((flatR l).1.length : Int) = cntI l := by
  refine vl_ind (m := fun l d => ((flatR l).1.length : Int) = cntI l) (fun d => rfl) (fun x t d _ _ hg hs _ ih => ?_) (fun x t d d0 d3 hg hs s1 s2 _ _ ih1 ih2 => ?_) l.length l d (Nat.le_refl _) h0 h3 hv
  · have e : cntI (x :: t) = 1 + cntI t := by unfold cntI; rw [itR_cons, if_neg (by rw [hg]; simp)]
    have e2 : flatR (x :: t) = (x :: (flatR t).1, (flatR t).2) := by unfold flatR; rw [itR_cons, if_neg (by rw [hg]; simp)]
    rw [e, e2]; simp only [List.length_cons]; omega
  · have e : cntI (x :: t) = mulB x * cntI (t.take (szN x)) + cntI (t.drop (szN x)) := by unfold cntI; rw [itR_cons, if_pos hg]
    have e2 : (flatR (x :: t)).1 = repL (mulB x).toNat (mvL x (flatR (t.take (szN x))).1).1 ++ (flatR (t.drop (szN x))).1 := by unfold flatR; rw [itR_cons, if_pos hg]
    have hm := ((itS_fields hs).1 hg).1
    rw [e, e2, List.length_append, repL_len, mvL_len, Int.natCast_add, Int.natCast_mul, ih1, ih2, Int.toNat_of_nonneg (by omega)]
/-- An item that is played: no group; its pitches are valid. -/
structure gdI (y : It) : Prop where
  k : (y.1 : Int) = 1 ∨ (y.1 : Int) = 2 ∨ (y.1 : Int) = 3
  len : (y.1 : Int) ≠ 3 → lenF y.2.2.1.1 y.2.2.1.2 = true
  pts : ∀ p ∈ (y.2.1 : List tPitch.den), okPt p = true
  n : (y.2.1 : List tPitch.den).length ≤ 6
theorem chGo_all (ps : List tPitch.den) : ∀ (n i : Nat), i + n = ps.length → chGo ps n i = true → ∀ k, i ≤ k → k < ps.length → okPt (pAt ps k) = true
  | 0, i, h, _, k, h1, h2 => by omega
  | n + 1, i, h, hc, k, h1, h2 => by
    have e := chGo_go ps i (by omega)
    rw [show ps.length - i = n + 1 by omega, show ps.length - (i + 1) = n by omega] at e
    rw [e] at hc
    simp only [Bool.and_eq_true] at hc
    by_cases hk : k = i
    · subst hk; exact hc.1
    · exact chGo_all ps n (i + 1) (by omega) hc.2.2 k (by omega) h2
theorem chord_all {ps : List tPitch.den} (h : chordF ps = true) : (∀ p ∈ ps, okPt p = true) ∧ ps.length ≤ 6 := by
  simp only [chordF, Bool.and_eq_true, inB_iff, pLen] at h
  refine ⟨fun p hp => ?_, by omega⟩
  obtain ⟨k, hk, rfl⟩ := List.getElem_of_mem hp
  have := chGo_all ps ps.length 0 (by omega) h.1 k (by omega) hk
  unfold pAt at this
  rwa [getD_lt _ _ _ hk] at this
theorem gd_of {x : It} (h : itSx x = true) (hg : grpB x = false) : gdI x := by
  obtain ⟨k, ps, a, b, v, m1, m2, z, rfl⟩ := i8 x
  simp only [itSx, itS, decide_eq_true_eq] at h
  simp only [grpB, Bool.or_eq_false_iff, decide_eq_false_iff_not] at hg
  rcases h with h | h | h | h | h
  · have hc := chord_all h.2.1
    exact ⟨.inl h.1, fun _ => h.2.2.1, hc.1, hc.2⟩
  · have hc := (pLen_zero ps).1 h.2.1
    exact ⟨.inr (.inl h.1), fun _ => h.2.2.1, by rw [hc]; simp, by rw [hc]; simp⟩
  · have hc := (pLen_zero ps).1 h.2.1
    exact ⟨.inr (.inr h.1), fun hk => absurd h.1 hk, by rw [hc]; simp, by rw [hc]; simp⟩
  · exact absurd h.1 hg.1
  · exact absurd h.1 hg.2
theorem gd_mv {x y : It} (h : gdI y) : gdI (itMv x y) := by
  refine ⟨h.1, h.2, fun p hp => ?_, by simp only [itMv, List.length_map]; exact h.4⟩
  simp only [itMv, List.mem_map] at hp
  obtain ⟨q, _, rfl⟩ := hp
  exact mvP_ok _ _ _
theorem gd_mvL {x : It} {l : Its} (h : ∀ y ∈ l, gdI y) : ∀ y ∈ (mvL x l).1, gdI y := by
  unfold mvL
  split
  · intro y hy
    simp only [List.mem_map] at hy
    obtain ⟨q, hq, rfl⟩ := hy
    exact gd_mv (h q hq)
  · exact h
theorem flat_gd {l : Its} {d : Int} (h0 : 0 ≤ d) (h3 : d ≤ 3) (hv : vl l d) : ∀ y ∈ (flatR l).1, gdI y := by
  refine vl_ind (m := fun l d => ∀ y ∈ (flatR l).1, gdI y) (fun d y hy => absurd (show y ∈ ([] : Its) from hy) (by simp)) (fun x t d _ _ hg hs _ ih => ?_) (fun x t d d0 d3 hg hs s1 s2 _ _ ih1 ih2 => ?_) l.length l d (Nat.le_refl _) h0 h3 hv
  · have e2 : flatR (x :: t) = (x :: (flatR t).1, (flatR t).2) := by unfold flatR; rw [itR_cons, if_neg (by rw [hg]; simp)]
    rw [e2]
    intro y hy
    rcases List.mem_cons.1 hy with rfl | hy
    · exact gd_of hs hg
    · exact ih y hy
  · have e2 : (flatR (x :: t)).1 = repL (mulB x).toNat (mvL x (flatR (t.take (szN x))).1).1 ++ (flatR (t.drop (szN x))).1 := by unfold flatR; rw [itR_cons, if_pos hg]
    rw [e2]
    intro y hy
    rcases List.mem_append.1 hy with hy | hy
    · exact gd_mvL ih1 y (mem_repL hy)
    · exact ih2 y hy
theorem flatV_gd {l : Its} {d : Int} (h0 : 0 ≤ d) (h3 : d ≤ 3) (hv : vl l d) : (∀ y ∈ (flatV l).1, gdI y) ∧ ((flatV l).1.length : Int) ≤ cntI l := by
  have h1 := flat_gd h0 h3 hv
  have h2 := flat_len h0 h3 hv
  have h4 := (cnt_bd h0 h3 hv).1
  unfold flatV
  split
  · exact ⟨h1, by simp only; omega⟩
  · exact ⟨by simp, by simpa using h4⟩
/-! ### the sum of the lengths -/
def lenGo : Its → Int × Int → (Int × Int) × Int
  | [], e => (e, 0)
  | y :: t, e => if (y.1 : Int) = 3 then lenGo t e else if (addF e.1 e.2 y.2.2.1.1 y.2.2.1.2).2 = 0 then lenGo t (addF e.1 e.2 y.2.2.1.1 y.2.2.1.2).1 else ((0, 0), 2)
theorem addF_ok {a b c d : Int} (h1 : okF a b = true) (h2 : okF c d = true) : ((addF a b c d).2 = 0 ∧ okF (addF a b c d).1.1 (addF a b c d).1.2 = true) ∨ ((addF a b c d).2 = 2 ∧ (addF a b c d).1 = (0, 0)) := by
  have g := mul_bd2 (okF_bd h1).1 (okF_bd h2).1
  have e : addF a b c d = mkF (a * d + c * b) (b * d) := by
    unfold addF opF
    rw [h1, h2]; rfl
  rw [e]
  rcases mkF_code (a * d + c * b) (b * d) (by omega) with h | h
  · exact .inl ⟨h, mkF_ok (by omega) h⟩
  · exact .inr h
theorem lenF_ok {a b : Int} (h : lenF a b = true) : okF a b = true := by
  simp only [lenF, beatF, Bool.and_eq_true] at h
  exact h.1.1
theorem lenGo_at (l : Its) (i : Nat) (h : i < l.length) (e : Int × Int) : lenGo (l.drop i) e = if ((l.getD i tItem.zero).1 : Int) = 3 then lenGo (l.drop (i + 1)) e else if (addF e.1 e.2 (l.getD i tItem.zero).2.2.1.1 (l.getD i tItem.zero).2.2.1.2).2 = 0 then lenGo (l.drop (i + 1)) (addF e.1 e.2 (l.getD i tItem.zero).2.2.1.1 (l.getD i tItem.zero).2.2.1.2).1 else ((0, 0), 2) := by
  rw [List.drop_eq_getElem_cons h, getD_lt _ _ _ h]; rfl
end Go.Proofs.Ytemlpimibhijoaa
