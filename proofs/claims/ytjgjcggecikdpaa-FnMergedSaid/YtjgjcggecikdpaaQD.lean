/- Plain laws: sums, differences and products of fractions whose denominators divide 24 never fail. Conditions: as each says. -/
import Derived.Test.YtjgjcggecikdpaaQL
import Derived.Test.YtjgjcggecikdpaaDs
set_option linter.unusedSimpArgs false
set_option linter.unusedVariables false
namespace Go.Proofs.Ytjgjcggecikdpaa
open Go.RowKit Sx
/-- A fraction is made where a valid one of the same value is. -/
theorem mkF_of {x : Fr} {n d : Int} (hx : okF x.1 x.2 = true) (hd : 0 < d) (h : x.1 * d = n * x.2) : mkF n d = (x, 0) := by
  have hb := okF_bd hx
  have hx' := hx
  simp only [okF, Bool.and_eq_true, inB_iff, beq_iff_eq] at hx'
  have gx : Int.gcd x.1 x.2 = 1 := by have := hx'.2.2; omega
  have dv : x.2 ∣ d := by
    have : x.2 ∣ d * x.1 := ⟨n, by rw [Int.mul_comm d, h, Int.mul_comm]⟩
    exact int_cop gx this
  obtain ⟨g, hg⟩ := dv
  have hgp : 0 < g := by
    rcases Int.lt_or_le 0 g with h1 | h1
    · exact h1
    · have : x.2 * g ≤ 0 := Int.mul_nonpos_of_nonneg_of_nonpos (by omega) h1
      omega
  have hn : n = g * x.1 := by
    rw [hg] at h
    have h2 : x.2 * n = x.2 * (g * x.1) := by grind
    exact Int.eq_of_mul_eq_mul_left (by omega) h2
  have hG : (Int.gcd n d : Int) = g := by
    rw [hn, hg, Int.mul_comm x.2 g, Int.gcd_mul_left, gx]
    omega
  have hm := mkF_pos n d (by omega)
  rw [hG] at hm
  have e1 : (n.natAbs : Int) / g = (x.1.natAbs : Int) := by
    rw [hn, Int.natAbs_mul]
    have : ((g.natAbs * x.1.natAbs : Nat) : Int) = g * (x.1.natAbs : Int) := by rw [Int.natCast_mul]; congr 1; omega
    rw [this]
    exact Int.mul_ediv_cancel_left _ (by omega)
  have e2 : (d.natAbs : Int) / g = x.2 := by
    rw [show (d.natAbs : Int) = d by omega, hg]
    exact Int.mul_ediv_cancel _ (by omega)
  rw [e1, e2, if_neg (by omega)] at hm
  rw [hm, show decide (d < 0) = false by simp; omega]
  by_cases h0 : x.1 < 0
  · have : n < 0 := by rw [hn]; exact Int.mul_neg_of_pos_of_neg hgp h0
    rw [decide_eq_true this]
    simp only [Bool.true_bne, Bool.not_false, if_true]
    exact Prod.ext (Prod.ext (by simp only; omega) rfl) rfl
  · have : ¬ n < 0 := by rw [hn]; have := Int.mul_nonneg (a := g) (b := x.1) (by omega) (by omega); omega
    rw [decide_eq_false this]
    simp only [bne_self_eq_false, Bool.false_eq_true, if_false]
    exact Prod.ext (Prod.ext (by simp only; omega) rfl) rfl
theorem opF_of {x : Fr} {n d : Int} (hx : okF x.1 x.2 = true) (hd : 0 < d) (h : qF x = (n : Rat) / (d : Rat)) : opF n d true = (x, 0) := by
  have e : opF n d true = mkF n d := by unfold opF; rfl
  rw [e]
  refine mkF_of hx hd ?_
  have h1 := (okF_den hx).1
  have h2 := cast_ne (show d ≠ 0 by omega)
  unfold qF at h
  have : (x.1 : Rat) * (d : Rat) = (n : Rat) * (x.2 : Rat) := by grind
  exact_mod_cast this
theorem addF_of {a b x : Fr} (ha : okF a.1 a.2 = true) (hb : okF b.1 b.2 = true) (hx : okF x.1 x.2 = true) (h : qF x = qF a + qF b) : addF a.1 a.2 b.1 b.2 = (x, 0) := by
  unfold addF
  rw [ha, hb]
  refine opF_of hx (Int.mul_pos (okF_den ha).2 (okF_den hb).2) ?_
  rw [h]
  have h1 := (okF_den ha).1
  have h2 := (okF_den hb).1
  unfold qF
  simp only [Rat.intCast_mul, Rat.intCast_add]
  grind
theorem subF_of {a b x : Fr} (ha : okF a.1 a.2 = true) (hb : okF b.1 b.2 = true) (hx : okF x.1 x.2 = true) (h : qF x = qF a - qF b) : subF a.1 a.2 b.1 b.2 = (x, 0) := by
  unfold subF
  rw [ha, hb]
  refine opF_of hx (Int.mul_pos (okF_den ha).2 (okF_den hb).2) ?_
  rw [h]
  have h1 := (okF_den ha).1
  have h2 := (okF_den hb).1
  unfold qF
  simp only [Rat.intCast_mul, Rat.intCast_sub]
  grind
theorem mulF_of {a b x : Fr} (ha : okF a.1 a.2 = true) (hb : okF b.1 b.2 = true) (hx : okF x.1 x.2 = true) (h : qF x = qF a * qF b) : mulF a.1 a.2 b.1 b.2 = (x, 0) := by
  unfold mulF
  rw [ha, hb]
  refine opF_of hx (Int.mul_pos (okF_den ha).2 (okF_den hb).2) ?_
  rw [h]
  have h1 := (okF_den ha).1
  have h2 := (okF_den hb).1
  unfold qF
  simp only [Rat.intCast_mul]
  grind
/-- The fraction n / 24. -/
def r24 (n : Int) : Fr := (mkF n 24).1
theorem r24_ok {n : Int} (h : 0 ≤ n ∧ n ≤ 1000000000) : okF (r24 n).1 (r24 n).2 = true ∧ qF (r24 n) = (n : Rat) / 24 ∧ 0 ≤ (r24 n).1 := by
  obtain ⟨z, p0, ho, _⟩ := mkF_small (n := n) (d := 24) h (by omega)
  refine ⟨ho, ?_, p0⟩
  have := mkF_q (n := n) (d := 24) (by omega) z
  exact this
theorem add24 {x y : Int} (hx : 0 ≤ x) (hy : 0 ≤ y) (h : x + y ≤ 1000000000) : addF (r24 x).1 (r24 x).2 (r24 y).1 (r24 y).2 = (r24 (x + y), 0) := by
  have h1 := r24_ok (n := x) (by omega)
  have h2 := r24_ok (n := y) (by omega)
  have h3 := r24_ok (n := x + y) (by omega)
  refine addF_of h1.1 h2.1 h3.1 ?_
  rw [h1.2.1, h2.2.1, h3.2.1, Rat.intCast_add]
  grind
theorem sub24 {x y : Int} (hy : 0 ≤ y) (hx : y ≤ x) (h : x ≤ 1000000000) : subF (r24 x).1 (r24 x).2 (r24 y).1 (r24 y).2 = (r24 (x - y), 0) := by
  have h1 := r24_ok (n := x) (by omega)
  have h2 := r24_ok (n := y) (by omega)
  have h3 := r24_ok (n := x - y) (by omega)
  refine subF_of h1.1 h2.1 h3.1 ?_
  rw [h1.2.1, h2.2.1, h3.2.1, Rat.intCast_sub]
  grind
theorem mul24 {x s : Int} (hx : 0 ≤ x ∧ x ≤ 1000000) (hs : 1 ≤ s ∧ s ≤ 1000) : mulF (r24 x).1 (r24 x).2 s 1 = (r24 (x * s), 0) := by
  have hm : 0 ≤ x * s := Int.mul_nonneg hx.1 (by omega)
  have hm2 : x * s ≤ 1000000 * 1000 := Int.mul_le_mul hx.2 hs.2 (by omega) (by omega)
  have h1 := r24_ok (n := x) (by omega)
  have h3 := r24_ok (n := x * s) (by omega)
  refine mulF_of (b := (s, 1)) h1.1 (okF_int (n := s) (by omega)) h3.1 ?_
  rw [h1.2.1, h3.2.1, Rat.intCast_mul, qF_int]
  grind
theorem on24 {x y s p : Int} (hx : 0 ≤ x ∧ x ≤ y) (hy : y ≤ 1000000) (hs : 1 ≤ s ∧ s ≤ 1000) (hp : 0 ≤ p ∧ p + (y - x) * s ≤ 1000000000) : onF (r24 x) (r24 y) s (r24 p) = (r24 (p + (y - x) * s), 0) := by
  unfold onF
  have hm : 0 ≤ (y - x) * s := Int.mul_nonneg (by omega) (by omega)
  rw [sub24 (by omega) hx.2 (by omega)]
  simp only [if_true]
  rw [mul24 (by omega) hs]
  simp only [if_true]
  exact add24 hp.1 hm hp.2
/-! ### drawn beats -/
theorem r24_cross {x : Int} (h : 0 ≤ x ∧ x ≤ 1000000000) : (r24 x).1 * 24 = x * (r24 x).2 := (mkF_part (n := x) (d := 24) (by omega) (mkF_small h (by omega)).1).1
theorem r24_le {x c : Int} (h : 0 ≤ x ∧ x ≤ 1000000000) (hc : x ≤ 24 * c) : (r24 x).1 ≤ c * (r24 x).2 := by
  have e := r24_cross h
  have d := (okF_den (r24_ok h).1).2
  have : x * (r24 x).2 ≤ 24 * c * (r24 x).2 := Int.mul_le_mul_of_nonneg_right hc (by omega)
  rw [← e, Int.mul_assoc] at this
  omega
theorem r24_lt {x y : Int} (hx : 0 ≤ x) (h : x < y) (hy : y ≤ 1000000000) : cmpB (r24 x) (r24 y) < 0 := by
  have h1 := r24_ok (n := x) (by omega)
  have h2 := r24_ok (n := y) (by omega)
  rw [qF_le (okF_den h1.1).2 (okF_den h2.1).2, h1.2.1, h2.2.1]
  have : (x : Rat) < (y : Rat) := by exact_mod_cast h
  grind
theorem r24_zero : r24 0 = (0, 1) := by unfold r24; rw [mkF_zero (by omega)]
theorem r24_half : r24 12 = (1, 2) := by
  have h := r24_ok (n := 12) (by omega)
  refine qF_inj h.1 (show okF 1 2 = true by decide) ?_
  rw [h.2.1]
  unfold qF
  have e1 : ((12 : Int) : Rat) = 12 := rfl
  have e2 : ((1 : Int) : Rat) = 1 := rfl
  have e3 : ((2 : Int) : Rat) = 2 := rfl
  simp only [e1, e2, e3]
  grind
theorem beat24 {s : Src} {m : Int} (h : okS s m) {most : Int} (hm : 0 ≤ most ∧ most ≤ 1000) : ∃ M, (0 ≤ M ∧ M ≤ 24 * most) ∧ (beatS s most).1 = r24 M := by
  have hd := amongS_mem h beatL (by decide)
  have hq := amongS_ok h beatL
  have hp := pickS_bd hq (most * (amongS s beatL).1 + 1)
  have ho := (beatS_bd h hm).1
  have eB : (beatS s most).1 = (mkF (pickS (amongS s beatL).2 (most * (amongS s beatL).1 + 1)).1 (amongS s beatL).1).1 := rfl
  rw [eB] at ho ⊢
  generalize (pickS (amongS s beatL).2 (most * (amongS s beatL).1 + 1)).1 = n at *
  generalize (amongS s beatL).1 = d at *
  have hc : ∃ c : Int, d * c = 24 ∧ 0 < c ∧ 1 ≤ d ∧ d ≤ 8 := by
    simp only [beatL, List.mem_cons, List.not_mem_nil, or_false] at hd
    rcases hd with h | h | h | h | h | h | h | h | h <;> subst h
    · exact ⟨24, by decide, by decide, by decide, by decide⟩
    · exact ⟨24, by decide, by decide, by decide, by decide⟩
    · exact ⟨12, by decide, by decide, by decide, by decide⟩
    · exact ⟨12, by decide, by decide, by decide, by decide⟩
    · exact ⟨8, by decide, by decide, by decide, by decide⟩
    · exact ⟨6, by decide, by decide, by decide, by decide⟩
    · exact ⟨6, by decide, by decide, by decide, by decide⟩
    · exact ⟨4, by decide, by decide, by decide, by decide⟩
    · exact ⟨3, by decide, by decide, by decide, by decide⟩
  obtain ⟨c, e, c0, d1, d8⟩ := hc
  have m0 : 0 ≤ most * d := Int.mul_nonneg hm.1 (by omega)
  have m1 : most * d ≤ 1000 * d := Int.mul_le_mul_of_nonneg_right hm.2 (by omega)
  have hn := hp.2.1 (by omega)
  have hM : n * c ≤ 24 * most := by
    have : n * c ≤ most * d * c := Int.mul_le_mul_of_nonneg_right (by omega) (by omega)
    rw [Int.mul_assoc, e] at this
    omega
  have hM0 : 0 ≤ n * c := Int.mul_nonneg hp.1 (by omega)
  refine ⟨n * c, ⟨hM0, hM⟩, ?_⟩
  obtain ⟨z, _, _, _⟩ := mkF_small (n := n) (d := d) ⟨hp.1, by omega⟩ ⟨by omega, by omega⟩
  have hr := r24_ok (n := n * c) (by omega)
  refine qF_inj ho hr.1 ?_
  rw [mkF_q (by omega) z, hr.2.1, Rat.intCast_mul]
  have e' : (d : Rat) * (c : Rat) = 24 := by exact_mod_cast e
  have hd0 := cast_ne (show d ≠ 0 by omega)
  have hc0 := cast_ne (show c ≠ 0 by omega)
  rw [← e']
  grind
end Go.Proofs.Ytjgjcggecikdpaa
