/- Plain laws: the fractions' values as rational numbers; sums, differences, products are exact where their code is 0. Conditions: as each says. -/
import Derived.Test.YtemlpimibhijoaaGaL
set_option linter.unusedSimpArgs false
set_option linter.unusedVariables false
namespace Go.Proofs.Ytemlpimibhijoaa
open Go.RowKit Sx
def qF (x : Fr) : Rat := (x.1 : Rat) / (x.2 : Rat)
theorem cast_ne {n : Int} (h : n ≠ 0) : (n : Rat) ≠ 0 := fun e => h (Rat.intCast_inj.mp (by simpa using e))
theorem cast_pos {n : Int} (h : 0 < n) : (0 : Rat) < (n : Rat) := by exact_mod_cast h
theorem mkF_part {n d : Int} (hd : d ≠ 0) (h : (mkF n d).2 = 0) : (mkF n d).1.1 * d = n * (mkF n d).1.2 ∧ 0 < (mkF n d).1.2 := by
  have hb := okF_bd (mkF_ok hd h)
  refine ⟨?_, by omega⟩
  have g1 := gcd_pos (n := n) (d := d) hd
  have hm := mkF_pos n d hd
  rw [hm] at h
  have d1 : (Int.gcd n d : Int) ∣ (n.natAbs : Int) := Int.dvd_natAbs.mpr (Int.gcd_dvd_left ..)
  have d2 : (Int.gcd n d : Int) ∣ (d.natAbs : Int) := Int.dvd_natAbs.mpr (Int.gcd_dvd_right ..)
  have m1 := Int.mul_ediv_cancel' d1
  have m2 := Int.mul_ediv_cancel' d2
  split at h
  · simp at h
  · rename_i hc
    rw [if_neg hc] at hm
    rw [hm]
    simp only
    generalize (n.natAbs : Int) / (Int.gcd n d : Int) = a at *
    generalize (d.natAbs : Int) / (Int.gcd n d : Int) = b at *
    generalize (Int.gcd n d : Int) = g at *
    by_cases hn : n < 0 <;> by_cases hd0 : d < 0
    · have e1 : n = -(g * a) := by omega
      have e2 : d = -(g * b) := by omega
      rw [e1, e2]; simp [decide_eq_true (show -(g * a) < 0 by omega), decide_eq_true (show -(g * b) < 0 by omega)]; grind
    · have e1 : n = -(g * a) := by omega
      have e2 : d = g * b := by omega
      rw [e1, e2]; simp [decide_eq_true (show -(g * a) < 0 by omega), decide_eq_false (show ¬ g * b < 0 by omega)]; grind
    · have e1 : n = g * a := by omega
      have e2 : d = -(g * b) := by omega
      rw [e1, e2]; simp [decide_eq_false (show ¬ g * a < 0 by omega), decide_eq_true (show -(g * b) < 0 by omega)]; grind
    · have e1 : n = g * a := by omega
      have e2 : d = g * b := by omega
      rw [e1, e2]; simp [decide_eq_false (show ¬ g * a < 0 by omega), decide_eq_false (show ¬ g * b < 0 by omega)]; grind
theorem mkF_q {n d : Int} (hd : d ≠ 0) (h : (mkF n d).2 = 0) : qF (mkF n d).1 = (n : Rat) / (d : Rat) := by
  obtain ⟨e, p⟩ := mkF_part hd h
  unfold qF
  generalize (mkF n d).1.1 = a at *
  generalize (mkF n d).1.2 = b at *
  have e' : (a : Rat) * (d : Rat) = (n : Rat) * (b : Rat) := by exact_mod_cast e
  have h1 := cast_ne hd
  have h2 := cast_ne (show b ≠ 0 by omega)
  grind
theorem opF_q {n d : Int} {c : Bool} (hd : d ≠ 0) (h : (opF n d c).2 = 0) : qF (opF n d c).1 = (n : Rat) / (d : Rat) := by
  unfold opF at *
  split at h
  · rename_i hc
    rw [if_pos hc]
    exact mkF_q hd h
  · simp at h
theorem okF_den {x : Fr} (h : okF x.1 x.2 = true) : (x.2 : Rat) ≠ 0 ∧ 0 < x.2 := ⟨cast_ne (by have := okF_bd h; omega), by have := okF_bd h; omega⟩
theorem addF_q {a b : Fr} (ha : okF a.1 a.2 = true) (hb : okF b.1 b.2 = true) (h : (addF a.1 a.2 b.1 b.2).2 = 0) : qF (addF a.1 a.2 b.1 b.2).1 = qF a + qF b := by
  unfold addF at *
  rw [opF_q (mul_ne ha hb) h]
  have h1 := (okF_den ha).1
  have h2 := (okF_den hb).1
  unfold qF
  simp only [Rat.intCast_mul, Rat.intCast_add]
  grind
theorem subF_q {a b : Fr} (ha : okF a.1 a.2 = true) (hb : okF b.1 b.2 = true) (h : (subF a.1 a.2 b.1 b.2).2 = 0) : qF (subF a.1 a.2 b.1 b.2).1 = qF a - qF b := by
  unfold subF at *
  rw [opF_q (mul_ne ha hb) h]
  have h1 := (okF_den ha).1
  have h2 := (okF_den hb).1
  unfold qF
  simp only [Rat.intCast_mul, Rat.intCast_sub]
  grind
theorem mulF_q {a b : Fr} (ha : okF a.1 a.2 = true) (hb : okF b.1 b.2 = true) (h : (mulF a.1 a.2 b.1 b.2).2 = 0) : qF (mulF a.1 a.2 b.1 b.2).1 = qF a * qF b := by
  unfold mulF at *
  rw [opF_q (mul_ne ha hb) h]
  have h1 := (okF_den ha).1
  have h2 := (okF_den hb).1
  unfold qF
  simp only [Rat.intCast_mul]
  grind
theorem qF_cross {a b : Fr} (ha : okF a.1 a.2 = true) (hb : okF b.1 b.2 = true) : qF a = qF b ↔ a.1 * b.2 = b.1 * a.2 := by
  have h1 := (okF_den ha).1
  have h2 := (okF_den hb).1
  have : a.1 * b.2 = b.1 * a.2 ↔ (a.1 : Rat) * (b.2 : Rat) = (b.1 : Rat) * (a.2 : Rat) := by
    constructor
    · intro h; exact_mod_cast h
    · intro h; exact_mod_cast h
  rw [this]
  unfold qF
  constructor <;> intro h <;> grind
theorem int_cop {a b c : Int} (h : Int.gcd b a = 1) (hd : a ∣ c * b) : a ∣ c := by
  have := Int.natAbs_dvd_natAbs.mpr hd
  rw [Int.natAbs_mul] at this
  exact Int.natAbs_dvd_natAbs.mp (Nat.Coprime.dvd_of_dvd_mul_right (by rw [Nat.Coprime, Nat.gcd_comm]; exact h) this)
/-- Two valid fractions of one value are the same. -/
theorem qF_inj {a b : Fr} (ha : okF a.1 a.2 = true) (hb : okF b.1 b.2 = true) (h : qF a = qF b) : a = b := by
  have hc := (qF_cross ha hb).mp h
  have pa := okF_bd ha
  have pb := okF_bd hb
  simp only [okF, Bool.and_eq_true, inB_iff, beq_iff_eq] at ha hb
  have ga : Int.gcd a.1 a.2 = 1 := by have := ha.2.2; omega
  have gb : Int.gcd b.1 b.2 = 1 := by have := hb.2.2; omega
  have d1 : a.2 ∣ b.2 := by
    have : a.2 ∣ b.2 * a.1 := ⟨b.1, by rw [Int.mul_comm b.2, hc, Int.mul_comm]⟩
    exact int_cop ga this
  have d2 : b.2 ∣ a.2 := by
    have : b.2 ∣ a.2 * b.1 := ⟨a.1, by rw [Int.mul_comm a.2, ← hc, Int.mul_comm]⟩
    exact int_cop gb this
  have e2 : a.2 = b.2 := Int.dvd_antisymm (by omega) (by omega) d1 d2
  rw [e2] at hc
  have e1 : a.1 = b.1 := Int.eq_of_mul_eq_mul_right (by omega) hc
  exact Prod.ext e1 e2
theorem qF_le {a b : Fr} (ha : 0 < a.2) (hb : 0 < b.2) : cmpB a b < 0 ↔ qF a < qF b := by
  rw [cmpB_lt]
  have h1 := cast_pos ha
  have h2 := cast_pos hb
  have : a.1 * b.2 < b.1 * a.2 ↔ (a.1 : Rat) * (b.2 : Rat) < (b.1 : Rat) * (a.2 : Rat) := by
    constructor
    · intro h; exact_mod_cast h
    · intro h; exact_mod_cast h
  rw [this]
  have ea : qF a * (a.2 : Rat) = (a.1 : Rat) := by unfold qF; grind
  have eb : qF b * (b.2 : Rat) = (b.1 : Rat) := by unfold qF; grind
  rw [← ea, ← eb]
  generalize qF a = x at *
  generalize qF b = y at *
  have h3 : (0 : Rat) < (a.2 : Rat) * (b.2 : Rat) := Rat.mul_pos h1 h2
  have e1 : x * (a.2 : Rat) * (b.2 : Rat) = x * ((a.2 : Rat) * (b.2 : Rat)) := by grind
  have e2 : y * (b.2 : Rat) * (a.2 : Rat) = y * ((a.2 : Rat) * (b.2 : Rat)) := by grind
  rw [e1, e2]
  constructor
  · intro h; exact Rat.lt_of_mul_lt_mul_right h (Rat.le_of_lt h3)
  · intro h; exact Rat.mul_lt_mul_of_pos_right h h3
theorem qF_int (s : Int) : qF (s, 1) = (s : Rat) := by unfold qF; show (s : Rat) / ((1 : Int) : Rat) = (s : Rat); have : ((1 : Int) : Rat) = 1 := rfl; rw [this]; grind
end Go.Proofs.Ytemlpimibhijoaa
