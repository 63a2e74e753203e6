/- Plain laws: a drawn beat is a multiple of 1/24. Conditions: as each says. -/
import Derived.Test.YtjgjcggecikdpaaQD
import Derived.Test.YtjgjcggecikdpaaDs
set_option linter.unusedSimpArgs false
set_option linter.unusedVariables false
namespace Go.Proofs.Ytjgjcggecikdpaa
open Go.RowKit Sx
theorem r24_cross {x : Int} (h : 0 ≤ x ∧ x ≤ 1000000000) : (r24 x).1 * 24 = x * (r24 x).2 := (mkF_part (n := x) (d := 24) (by omega) (mkF_small h (by omega)).1).1
theorem r24_le {x c : Int} (h : 0 ≤ x ∧ x ≤ 1000000000) (hc : x ≤ 24 * c) : (r24 x).1 ≤ c * (r24 x).2 := by
  have e := r24_cross h
  have d := (okF_den (r24_ok h).1).2
  have : x * (r24 x).2 ≤ 24 * c * (r24 x).2 := Int.mul_le_mul_of_nonneg_right hc (by omega)
  rw [← e, Int.mul_assoc] at this
  omega
theorem r24_lt {x y : Int} (hx : 0 ≤ x) (h : x < y) (hy : y ≤ 1000000000) : cmpB (r24 x) (r24 y) < 0 := by
  have h1 := r24_ok (n := x) (by omega)
  have h2 := r24_ok (n := y) (by omega)
  rw [qF_le (okF_den h1.1).2 (okF_den h2.1).2, h1.2.1, h2.2.1]
  have : (x : Rat) < (y : Rat) := by exact_mod_cast h
  grind
theorem r24_zero : r24 0 = (0, 1) := by unfold r24; rw [mkF_zero (by omega)]
theorem r24_half : r24 12 = (1, 2) := by
  have h := r24_ok (n := 12) (by omega)
  refine qF_inj h.1 (show okF 1 2 = true by decide) ?_
  rw [h.2.1]
  unfold qF
  have e1 : ((12 : Int) : Rat) = 12 := rfl
  have e2 : ((1 : Int) : Rat) = 1 := rfl
  have e3 : ((2 : Int) : Rat) = 2 := rfl
  simp only [e1, e2, e3]
  grind
theorem beat24 {s : Src} {m : Int} (h : okS s m) {most : Int} (hm : 0 ≤ most ∧ most ≤ 1000) : ∃ M, (0 ≤ M ∧ M ≤ 24 * most) ∧ (beatS s most).1 = r24 M := by
  have hd := amongS_mem h beatL (by decide)
  have hq := amongS_ok h beatL
  have hp := pickS_bd hq (most * (amongS s beatL).1 + 1)
  have ho := (beatS_bd h hm).1
  have eB : (beatS s most).1 = (mkF (pickS (amongS s beatL).2 (most * (amongS s beatL).1 + 1)).1 (amongS s beatL).1).1 := rfl
  rw [eB] at ho ⊢
  generalize (pickS (amongS s beatL).2 (most * (amongS s beatL).1 + 1)).1 = n at *
  generalize (amongS s beatL).1 = d at *
  have hc : ∃ c : Int, d * c = 24 ∧ 0 < c ∧ 1 ≤ d ∧ d ≤ 8 := by
    simp only [beatL, List.mem_cons, List.not_mem_nil, or_false] at hd
    rcases hd with h | h | h | h | h | h | h | h | h <;> subst h
    · exact ⟨24, by decide, by decide, by decide, by decide⟩
    · exact ⟨24, by decide, by decide, by decide, by decide⟩
    · exact ⟨12, by decide, by decide, by decide, by decide⟩
    · exact ⟨12, by decide, by decide, by decide, by decide⟩
    · exact ⟨8, by decide, by decide, by decide, by decide⟩
    · exact ⟨6, by decide, by decide, by decide, by decide⟩
    · exact ⟨6, by decide, by decide, by decide, by decide⟩
    · exact ⟨4, by decide, by decide, by decide, by decide⟩
    · exact ⟨3, by decide, by decide, by decide, by decide⟩
  obtain ⟨c, e, c0, d1, d8⟩ := hc
  have m0 : 0 ≤ most * d := Int.mul_nonneg hm.1 (by omega)
  have m1 : most * d ≤ 1000 * d := Int.mul_le_mul_of_nonneg_right hm.2 (by omega)
  have hn := hp.2.1 (by omega)
  have hM : n * c ≤ 24 * most := by
    have : n * c ≤ most * d * c := Int.mul_le_mul_of_nonneg_right (by omega) (by omega)
    rw [Int.mul_assoc, e] at this
    omega
  have hM0 : 0 ≤ n * c := Int.mul_nonneg hp.1 (by omega)
  refine ⟨n * c, ⟨hM0, hM⟩, ?_⟩
  obtain ⟨z, _, _, _⟩ := mkF_small (n := n) (d := d) ⟨hp.1, by omega⟩ ⟨by omega, by omega⟩
  have hr := r24_ok (n := n * c) (by omega)
  refine qF_inj ho hr.1 ?_
  rw [mkF_q (by omega) z, hr.2.1, Rat.intCast_mul]
  have e' : (d : Rat) * (c : Rat) = 24 := by exact_mod_cast e
  have hd0 := cast_ne (show d ≠ 0 by omega)
  have hc0 := cast_ne (show c ≠ 0 by omega)
  rw [← e']
  grind
end Go.Proofs.Ytjgjcggecikdpaa
