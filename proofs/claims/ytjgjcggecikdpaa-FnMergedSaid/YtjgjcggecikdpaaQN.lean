/- Plain laws: a drawn note is valid; its beats are multiples of 1/24. Conditions: as each says. -/
import Derived.Test.YtjgjcggecikdpaaQD
import Derived.Test.YtjgjcggecikdpaaDn
set_option linter.unusedSimpArgs false
set_option linter.unusedVariables false
namespace Go.Proofs.Ytjgjcggecikdpaa
open Go.RowKit Sx
theorem r24_quarter : r24 6 = (1, 4) := by
  have h := r24_ok (n := 6) (by omega)
  refine qF_inj h.1 (show okF 1 4 = true by decide) ?_
  rw [h.2.1]
  unfold qF
  have e1 : ((6 : Int) : Rat) = 6 := rfl
  have e2 : ((1 : Int) : Rat) = 1 := rfl
  have e3 : ((4 : Int) : Rat) = 4 := rfl
  simp only [e1, e2, e3]
  grind
theorem len24 {s : Src} {m : Int} (h : okS s m) : ∃ M, (1 ≤ M ∧ M ≤ 72) ∧ (lenS s).1 = r24 M := by
  obtain ⟨M, hM, e⟩ := beat24 h (most := 3) (by omega)
  have eS : (lenS s).1 = if (beatS s 3).1.1 = 0 then (1, 4) else (beatS s 3).1 := rfl
  rw [eS]
  split
  · exact ⟨6, by omega, r24_quarter.symm⟩
  · rename_i hz
    refine ⟨M, ⟨?_, by omega⟩, e⟩
    rcases Int.lt_or_le 0 M with h1 | h1
    · omega
    · have : M = 0 := by omega
      rw [e, this, r24_zero] at hz
      exact absurd rfl hz
/-- A note whose beats are multiples of 1/24 within bounds. -/
structure N24 (x : tNote.den) (A L : Int) : Prop where
  at_ : x.1 = r24 A
  len_ : x.2.1 = r24 L
  a0 : 0 ≤ A
  a1 : A ≤ 2400
  l0 : 1 ≤ L
  l1 : L ≤ 72
  key : (48 : Int) ≤ x.2.2.1 ∧ x.2.2.1 ≤ (72 : Int)
  vel : (1 : Int) ≤ x.2.2.2.1 ∧ x.2.2.2.1 ≤ (127 : Int)
  ch : (0 : Int) ≤ x.2.2.2.2 ∧ x.2.2.2.2 ≤ (15 : Int)
theorem note24 {s : Src} {m : Int} (h : okS s m) {most : Int} (hm : 0 ≤ most ∧ most ≤ 100) : ∃ A L, N24 (noteS s most).1 A L := by
  obtain ⟨A, hA, eA⟩ := beat24 h (most := most) (by omega)
  have h1 := beatS_ok h most
  obtain ⟨L, hL, eL⟩ := len24 h1
  have h2 := lenS_ok h1
  have b3 := pickS_bd h2 25
  have h3 := pickS_ok h2 25
  have b4 := pickS_bd h3 127
  have h4 := pickS_ok h3 127
  have b5 := amongS_mem h4 chanL (by decide)
  have k3 := b3.2.1 (by omega)
  have k4 := b4.2.1 (by omega)
  refine ⟨A, L, eA, eL, hA.1, by omega, hL.1, hL.2, ?_, ?_, ?_⟩
  · show 48 ≤ 48 + (pickS (lenS (beatS s most).2).2 25).1 ∧ 48 + (pickS (lenS (beatS s most).2).2 25).1 ≤ 72
    omega
  · show 1 ≤ 1 + (pickS (pickS (lenS (beatS s most).2).2 25).2 127).1 ∧ 1 + (pickS (pickS (lenS (beatS s most).2).2 25).2 127).1 ≤ 127
    omega
  · show 0 ≤ (amongS (pickS (pickS (lenS (beatS s most).2).2 25).2 127).2 chanL).1 ∧ (amongS (pickS (pickS (lenS (beatS s most).2).2 25).2 127).2 chanL).1 ≤ 15
    generalize (amongS (pickS (pickS (lenS (beatS s most).2).2 25).2 127).2 chanL).1 = c at b5 ⊢
    simp only [chanL, List.mem_cons, List.not_mem_nil, or_false] at b5
    omega
theorem r24_beat {x : Int} (h : 0 ≤ x ∧ x ≤ 24000) : beatF (r24 x).1 (r24 x).2 = true := by
  have hr := r24_ok (n := x) (by omega)
  simp only [beatF, Bool.and_eq_true, decide_eq_true_eq]
  exact ⟨hr.1, hr.2.2, r24_le (by omega) (by omega)⟩
theorem r24_ne {x : Int} (h : 1 ≤ x ∧ x ≤ 1000000000) : (r24 x).1 ≠ 0 := by
  intro e
  have hc := r24_cross (x := x) (by omega)
  have hd := (okF_den (r24_ok (n := x) (by omega)).1).2
  rw [e] at hc
  have := Int.mul_pos (show 0 < x by omega) hd
  omega
theorem N24.valid {x : tNote.den} {A L : Int} (h : N24 x A L) : noteF x = true := by
  obtain ⟨e1, e2, a0, a1, l0, l1, k, v, c⟩ := h
  unfold noteF
  rw [e1, e2, r24_beat (by omega), r24_beat (by omega), add24 a0 (by omega) (by omega)]
  have := r24_ne (x := L) (by omega)
  simp only [Bool.true_and, Bool.and_eq_true, Bool.not_eq_true', decide_eq_false_iff_not, decide_eq_true_eq, inB_iff]
  refine ⟨this, trivial, ⟨?_, ?_⟩, v, c⟩
  · exact Int.le_trans (by decide) k.1
  · exact Int.le_trans k.2 (by decide)
end Go.Proofs.Ytjgjcggecikdpaa
