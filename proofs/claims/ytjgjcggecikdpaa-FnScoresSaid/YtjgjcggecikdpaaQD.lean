/- Plain laws: sums, differences and products of fractions whose denominators divide 24 never fail. Conditions: as each says. -/
import Derived.Test.YtjgjcggecikdpaaQL
import Derived.Test.YtjgjcggecikdpaaDs
set_option linter.unusedSimpArgs false
set_option linter.unusedVariables false
namespace Go.Proofs.Ytjgjcggecikdpaa
open Go.RowKit Sx
/-- A fraction is made where a valid one of the same value is. -/
theorem mkF_of {x : Fr} {n d : Int} (hx : okF x.1 x.2 = true) (hd : 0 < d) (h : x.1 * d = n * x.2) : mkF n d = (x, 0) := by
  have hb := okF_bd hx
  have hx' := hx
  simp only [okF, Bool.and_eq_true, inB_iff, beq_iff_eq] at hx'
  have gx : Int.gcd x.1 x.2 = 1 := by have := hx'.2.2; omega
  have dv : x.2 ∣ d := by
    have : x.2 ∣ d * x.1 := ⟨n, by rw [Int.mul_comm d, h, Int.mul_comm]⟩
    exact int_cop gx this
  obtain ⟨g, hg⟩ := dv
  have hgp : 0 < g := by
    rcases Int.lt_or_le 0 g with h1 | h1
    · exact h1
    · have : x.2 * g ≤ 0 := Int.mul_nonpos_of_nonneg_of_nonpos (by omega) h1
      omega
  have hn : n = g * x.1 := by
    rw [hg] at h
    have h2 : x.2 * n = x.2 * (g * x.1) := by grind
    exact Int.eq_of_mul_eq_mul_left (by omega) h2
  have hG : (Int.gcd n d : Int) = g := by
    rw [hn, hg, Int.mul_comm x.2 g, Int.gcd_mul_left, gx]
    omega
  have hm := mkF_pos n d (by omega)
  rw [hG] at hm
  have e1 : (n.natAbs : Int) / g = (x.1.natAbs : Int) := by
    rw [hn, Int.natAbs_mul]
    have : ((g.natAbs * x.1.natAbs : Nat) : Int) = g * (x.1.natAbs : Int) := by rw [Int.natCast_mul]; congr 1; omega
    rw [this]
    exact Int.mul_ediv_cancel_left _ (by omega)
  have e2 : (d.natAbs : Int) / g = x.2 := by
    rw [show (d.natAbs : Int) = d by omega, hg]
    exact Int.mul_ediv_cancel _ (by omega)
  rw [e1, e2, if_neg (by omega)] at hm
  rw [hm, show decide (d < 0) = false by simp; omega]
  by_cases h0 : x.1 < 0
  · have : n < 0 := by rw [hn]; exact Int.mul_neg_of_pos_of_neg hgp h0
    rw [decide_eq_true this]
    simp only [Bool.true_bne, Bool.not_false, if_true]
    exact Prod.ext (Prod.ext (by simp only; omega) rfl) rfl
  · have : ¬ n < 0 := by rw [hn]; have := Int.mul_nonneg (a := g) (b := x.1) (by omega) (by omega); omega
    rw [decide_eq_false this]
    simp only [bne_self_eq_false, Bool.false_eq_true, if_false]
    exact Prod.ext (Prod.ext (by simp only; omega) rfl) rfl
theorem opF_of {x : Fr} {n d : Int} (hx : okF x.1 x.2 = true) (hd : 0 < d) (h : qF x = (n : Rat) / (d : Rat)) : opF n d true = (x, 0) := by
  have e : opF n d true = mkF n d := by unfold opF; rfl
  rw [e]
  refine mkF_of hx hd ?_
  have h1 := (okF_den hx).1
  have h2 := cast_ne (show d ≠ 0 by omega)
  unfold qF at h
  have : (x.1 : Rat) * (d : Rat) = (n : Rat) * (x.2 : Rat) := by grind
  exact_mod_cast this
theorem addF_of {a b x : Fr} (ha : okF a.1 a.2 = true) (hb : okF b.1 b.2 = true) (hx : okF x.1 x.2 = true) (h : qF x = qF a + qF b) : addF a.1 a.2 b.1 b.2 = (x, 0) := by
  unfold addF
  rw [ha, hb]
  refine opF_of hx (Int.mul_pos (okF_den ha).2 (okF_den hb).2) ?_
  rw [h]
  have h1 := (okF_den ha).1
  have h2 := (okF_den hb).1
  unfold qF
  simp only [Rat.intCast_mul, Rat.intCast_add]
  grind
theorem subF_of {a b x : Fr} (ha : okF a.1 a.2 = true) (hb : okF b.1 b.2 = true) (hx : okF x.1 x.2 = true) (h : qF x = qF a - qF b) : subF a.1 a.2 b.1 b.2 = (x, 0) := by
  unfold subF
  rw [ha, hb]
  refine opF_of hx (Int.mul_pos (okF_den ha).2 (okF_den hb).2) ?_
  rw [h]
  have h1 := (okF_den ha).1
  have h2 := (okF_den hb).1
  unfold qF
  simp only [Rat.intCast_mul, Rat.intCast_sub]
  grind
theorem mulF_of {a b x : Fr} (ha : okF a.1 a.2 = true) (hb : okF b.1 b.2 = true) (hx : okF x.1 x.2 = true) (h : qF x = qF a * qF b) : mulF a.1 a.2 b.1 b.2 = (x, 0) := by
  unfold mulF
  rw [ha, hb]
  refine opF_of hx (Int.mul_pos (okF_den ha).2 (okF_den hb).2) ?_
  rw [h]
  have h1 := (okF_den ha).1
  have h2 := (okF_den hb).1
  unfold qF
  simp only [Rat.intCast_mul]
  grind
/-- The fraction n / 24. -/
def r24 (n : Int) : Fr := (mkF n 24).1
theorem r24_ok {n : Int} (h : 0 ≤ n ∧ n ≤ 1000000000) : okF (r24 n).1 (r24 n).2 = true ∧ qF (r24 n) = (n : Rat) / 24 ∧ 0 ≤ (r24 n).1 := by
  obtain ⟨z, p0, ho, _⟩ := mkF_small (n := n) (d := 24) h (by omega)
  refine ⟨ho, ?_, p0⟩
  have := mkF_q (n := n) (d := 24) (by omega) z
  exact this
theorem add24 {x y : Int} (hx : 0 ≤ x) (hy : 0 ≤ y) (h : x + y ≤ 1000000000) : addF (r24 x).1 (r24 x).2 (r24 y).1 (r24 y).2 = (r24 (x + y), 0) := by
  have h1 := r24_ok (n := x) (by omega)
  have h2 := r24_ok (n := y) (by omega)
  have h3 := r24_ok (n := x + y) (by omega)
  refine addF_of h1.1 h2.1 h3.1 ?_
  rw [h1.2.1, h2.2.1, h3.2.1, Rat.intCast_add]
  grind
theorem sub24 {x y : Int} (hy : 0 ≤ y) (hx : y ≤ x) (h : x ≤ 1000000000) : subF (r24 x).1 (r24 x).2 (r24 y).1 (r24 y).2 = (r24 (x - y), 0) := by
  have h1 := r24_ok (n := x) (by omega)
  have h2 := r24_ok (n := y) (by omega)
  have h3 := r24_ok (n := x - y) (by omega)
  refine subF_of h1.1 h2.1 h3.1 ?_
  rw [h1.2.1, h2.2.1, h3.2.1, Rat.intCast_sub]
  grind
theorem mul24 {x s : Int} (hx : 0 ≤ x ∧ x ≤ 1000000) (hs : 1 ≤ s ∧ s ≤ 1000) : mulF (r24 x).1 (r24 x).2 s 1 = (r24 (x * s), 0) := by
  have hm : 0 ≤ x * s := Int.mul_nonneg hx.1 (by omega)
  have hm2 : x * s ≤ 1000000 * 1000 := Int.mul_le_mul hx.2 hs.2 (by omega) (by omega)
  have h1 := r24_ok (n := x) (by omega)
  have h3 := r24_ok (n := x * s) (by omega)
  refine mulF_of (b := (s, 1)) h1.1 (okF_int (n := s) (by omega)) h3.1 ?_
  rw [h1.2.1, h3.2.1, Rat.intCast_mul, qF_int]
  grind
theorem on24 {x y s p : Int} (hx : 0 ≤ x ∧ x ≤ y) (hy : y ≤ 1000000) (hs : 1 ≤ s ∧ s ≤ 1000) (hp : 0 ≤ p ∧ p + (y - x) * s ≤ 1000000000) : onF (r24 x) (r24 y) s (r24 p) = (r24 (p + (y - x) * s), 0) := by
  unfold onF
  have hm : 0 ≤ (y - x) * s := Int.mul_nonneg (by omega) (by omega)
  rw [sub24 (by omega) hx.2 (by omega)]
  simp only [if_true]
  rw [mul24 (by omega) hs]
  simp only [if_true]
  exact add24 hp.1 hm hp.2
end Go.Proofs.Ytjgjcggecikdpaa
