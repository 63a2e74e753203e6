/- Plain laws: a drawn tempo map is valid, a drawn beat is one. Conditions: as each says. -/
import Derived.Test.YtdglkoeojhakhaaQD
set_option linter.unusedSimpArgs false
set_option linter.unusedVariables false
namespace Go.Proofs.Ytdglkoeojhakhaa
open Go.RowKit Sx
theorem r24_cross {x : Int} (h : 0 ≤ x ∧ x ≤ 1000000000) : (r24 x).1 * 24 = x * (r24 x).2 := (mkF_part (n := x) (d := 24) (by omega) (mkF_small h (by omega)).1).1
theorem r24_le {x c : Int} (h : 0 ≤ x ∧ x ≤ 1000000000) (hc : x ≤ 24 * c) : (r24 x).1 ≤ c * (r24 x).2 := by
  have e := r24_cross h
  have d := (okF_den (r24_ok h).1).2
  have : x * (r24 x).2 ≤ 24 * c * (r24 x).2 := Int.mul_le_mul_of_nonneg_right hc (by omega)
  rw [← e, Int.mul_assoc] at this
  omega
theorem r24_lt {x y : Int} (hx : 0 ≤ x) (h : x < y) (hy : y ≤ 1000000000) : cmpB (r24 x) (r24 y) < 0 := by
  have h1 := r24_ok (n := x) (by omega)
  have h2 := r24_ok (n := y) (by omega)
  rw [qF_le (okF_den h1.1).2 (okF_den h2.1).2, h1.2.1, h2.2.1]
  have : (x : Rat) < (y : Rat) := by exact_mod_cast h
  grind
theorem r24_zero : r24 0 = (0, 1) := by unfold r24; rw [mkF_zero (by omega)]
theorem r24_half : r24 12 = (1, 2) := by
  have h := r24_ok (n := 12) (by omega)
  refine qF_inj h.1 (show okF 1 2 = true by decide) ?_
  rw [h.2.1]
  unfold qF
  have e1 : ((12 : Int) : Rat) = 12 := rfl
  have e2 : ((1 : Int) : Rat) = 1 := rfl
  have e3 : ((2 : Int) : Rat) = 2 := rfl
  simp only [e1, e2, e3]
  grind
theorem beat24 {s : Src} {m : Int} (h : okS s m) {most : Int} (hm : 0 ≤ most ∧ most ≤ 1000) : ∃ M, (0 ≤ M ∧ M ≤ 24 * most) ∧ (beatS s most).1 = r24 M := by
  have hd := amongS_mem h beatL (by decide)
  have hq := amongS_ok h beatL
  have hp := pickS_bd hq (most * (amongS s beatL).1 + 1)
  have ho := (beatS_bd h hm).1
  have eB : (beatS s most).1 = (mkF (pickS (amongS s beatL).2 (most * (amongS s beatL).1 + 1)).1 (amongS s beatL).1).1 := rfl
  rw [eB] at ho ⊢
  generalize (pickS (amongS s beatL).2 (most * (amongS s beatL).1 + 1)).1 = n at *
  generalize (amongS s beatL).1 = d at *
  have hc : ∃ c : Int, d * c = 24 ∧ 0 < c ∧ 1 ≤ d ∧ d ≤ 8 := by
    simp only [beatL, List.mem_cons, List.not_mem_nil, or_false] at hd
    rcases hd with h | h | h | h | h | h | h | h | h <;> subst h
    · exact ⟨24, by decide, by decide, by decide, by decide⟩
    · exact ⟨24, by decide, by decide, by decide, by decide⟩
    · exact ⟨12, by decide, by decide, by decide, by decide⟩
    · exact ⟨12, by decide, by decide, by decide, by decide⟩
    · exact ⟨8, by decide, by decide, by decide, by decide⟩
    · exact ⟨6, by decide, by decide, by decide, by decide⟩
    · exact ⟨6, by decide, by decide, by decide, by decide⟩
    · exact ⟨4, by decide, by decide, by decide, by decide⟩
    · exact ⟨3, by decide, by decide, by decide, by decide⟩
  obtain ⟨c, e, c0, d1, d8⟩ := hc
  have m0 : 0 ≤ most * d := Int.mul_nonneg hm.1 (by omega)
  have m1 : most * d ≤ 1000 * d := Int.mul_le_mul_of_nonneg_right hm.2 (by omega)
  have hn := hp.2.1 (by omega)
  have hM : n * c ≤ 24 * most := by
    have : n * c ≤ most * d * c := Int.mul_le_mul_of_nonneg_right (by omega) (by omega)
    rw [Int.mul_assoc, e] at this
    omega
  have hM0 : 0 ≤ n * c := Int.mul_nonneg hp.1 (by omega)
  refine ⟨n * c, ⟨hM0, hM⟩, ?_⟩
  obtain ⟨z, _, _, _⟩ := mkF_small (n := n) (d := d) ⟨hp.1, by omega⟩ ⟨by omega, by omega⟩
  have hr := r24_ok (n := n * c) (by omega)
  refine qF_inj ho hr.1 ?_
  rw [mkF_q (by omega) z, hr.2.1, Rat.intCast_mul]
  have e' : (d : Rat) * (c : Rat) = 24 := by exact_mod_cast e
  have hd0 := cast_ne (show d ≠ 0 by omega)
  have hc0 := cast_ne (show c ≠ 0 by omega)
  rw [← e']
  grind
theorem step24 {s : Src} {m : Int} (h : okS s m) : ∃ M, (1 ≤ M ∧ M ≤ 72) ∧ (stepS s).1 = r24 M := by
  obtain ⟨M, hM, e⟩ := beat24 h (most := 3) (by omega)
  have eS : (stepS s).1 = if (beatS s 3).1.1 = 0 then (1, 2) else (beatS s 3).1 := rfl
  rw [eS]
  split
  · exact ⟨12, by omega, r24_half.symm⟩
  · rename_i hz
    refine ⟨M, ⟨?_, by omega⟩, e⟩
    rcases Int.lt_or_le 0 M with h1 | h1
    · omega
    · have : M = 0 := by omega
      rw [e, this, r24_zero] at hz
      exact absurd rfl hz
/-- Tempos at multiples of 1/24 that grow, from one on. -/
def G24 : List tTempo.den → Int → Prop
  | [], _ => True
  | x :: r, N => x.1 = r24 N ∧ (1 ≤ x.2 ∧ x.2 ≤ 1000) ∧ ∃ M, (1 ≤ M ∧ M ≤ 72) ∧ G24 r (N + M)
theorem drawT_g : ∀ (n : Nat) {s : Src} {m : Int} (N : Int), okS s m → 0 ≤ N → N + 72 * n ≤ 1000000 → (drawT n s (r24 N)).1.length = n ∧ G24 (drawT n s (r24 N)).1 N
  | 0, _, _, _, _, _, _ => ⟨rfl, trivial⟩
  | n + 1, s, m, N, h, h0, hN => by
    have hs := amongS_ok h sampL
    have hx := amongS_mem h sampL (by decide)
    obtain ⟨M, hM, e⟩ := step24 hs
    have hadd := add24 (x := N) (y := M) h0 (by omega) (by omega)
    have hk := stepS_ok hs
    have ih := drawT_g n (N + M) hk (by omega) (by omega)
    unfold drawT
    rw [e, hadd]
    refine ⟨by rw [List.length_cons, ih.1], rfl, ?_, M, hM, ih.2⟩
    show 1 ≤ (amongS s sampL).1 ∧ (amongS s sampL).1 ≤ 1000
    generalize (amongS s sampL).1 = d at hx ⊢
    simp only [sampL, List.mem_cons, List.not_mem_nil, or_false] at hx
    omega
theorem G24_fn : ∀ (l : List tTempo.den) (N : Int), G24 l N → ∃ X : Nat → Int, X 0 = N ∧ ∀ k, k < l.length → (tAt l k).1 = r24 (X k) ∧ (1 ≤ (tAt l k).2 ∧ (tAt l k).2 ≤ 1000) ∧ (X k + 1 ≤ X (k + 1) ∧ X (k + 1) ≤ X k + 72)
  | [], N, _ => ⟨fun _ => N, rfl, fun k h => absurd h (by simp)⟩
  | x :: r, N, ⟨e, hs, M, hM, hr⟩ => by
    obtain ⟨X, x0, hX⟩ := G24_fn r (N + M) hr
    refine ⟨fun k => match k with | 0 => N | k + 1 => X k, rfl, fun k hk => ?_⟩
    cases k with
    | zero => exact ⟨e, hs, by simp only [x0]; omega⟩
    | succ k => exact hX k (by simpa using hk)
theorem X_bd {X : Nat → Int} {n : Nat} (x0 : X 0 = 0) (h : ∀ k, k < n → X k + 1 ≤ X (k + 1) ∧ X (k + 1) ≤ X k + 72) : ∀ k : Nat, k ≤ n → 0 ≤ X k ∧ X k ≤ 72 * k
  | 0, _ => by rw [x0]; omega
  | k + 1, hk => by
    have := X_bd x0 h k (by omega)
    have := h k (by omega)
    omega
theorem chn24 {l : List tTempo.den} {X : Nat → Int} (x0 : X 0 = 0) (hl : l.length ≤ 8) (hX : ∀ k, k < l.length → (tAt l k).1 = r24 (X k) ∧ (1 ≤ (tAt l k).2 ∧ (tAt l k).2 ≤ 1000) ∧ (X k + 1 ≤ X (k + 1) ∧ X (k + 1) ≤ X k + 72)) :
    ∀ k : Nat, k < l.length → ∃ p : Int, (0 ≤ p ∧ p ≤ 72000 * k) ∧ chn l k = (r24 p, 0)
  | 0, _ => ⟨0, by omega, by unfold chn; rw [r24_zero]⟩
  | k + 1, hk => by
    obtain ⟨p, hp, e⟩ := chn24 x0 hl hX k (by omega)
    have h1 := hX k (by omega)
    have h2 := hX (k + 1) hk
    have hb := X_bd x0 (fun k hk => (hX k hk).2.2) k (by omega)
    have hm : 0 ≤ (X (k + 1) - X k) * (tAt l k).2 := Int.mul_nonneg (by omega) (by omega)
    have hm2 : (X (k + 1) - X k) * (tAt l k).2 ≤ 72 * 1000 := Int.mul_le_mul (by omega) h1.2.1.2 (by omega) (by omega)
    refine ⟨p + (X (k + 1) - X k) * (tAt l k).2, by omega, ?_⟩
    unfold chn
    rw [e]
    simp only [if_true]
    rw [h1.1, h2.1]
    exact on24 (by omega) (by omega) h1.2.1 (by omega)
theorem tmap_of_g {l : List tTempo.den} (h : G24 l 0) (hl : 1 ≤ l.length ∧ l.length ≤ 8) : tmapF l = true := by
  obtain ⟨X, x0, hX⟩ := G24_fn l 0 h
  have hc := chn24 x0 hl.2 hX
  have hb := X_bd x0 fun k hk => (hX k hk).2.2
  simp only [tmapF, Bool.and_eq_true, decide_eq_true_eq]
  refine ⟨hl, ?_⟩
  rw [psGo_true]
  intro k _ hk
  have h1 := hX k (by omega)
  have b1 := hb k (by omega)
  have hr := r24_ok (n := X k) (by omega)
  obtain ⟨p, _, ep⟩ := hc k (by omega)
  simp only [okAt, goodT, beatF, Bool.and_eq_true, decide_eq_true_eq, inB_iff, h1.1, ep, and_true]
  refine ⟨⟨⟨hr.1, hr.2.2, r24_le (by omega) (by omega)⟩, h1.2.1⟩, ?_, ?_⟩
  · intro hk0
    rw [hk0, x0, r24_zero]
  · rcases Nat.eq_zero_or_pos k with h0 | h0
    · exact .inl h0
    · right
      have h2 := hX (k - 1) (by omega)
      have b2 := hb (k - 1) (by omega)
      rw [show k - 1 + 1 = k by omega] at h2
      rw [h2.1]
      exact r24_lt b2.1 (by omega) (by omega)
theorem tmapS_valid {s : Src} {m : Int} (h : okS s m) : tmapF (tmapS s).1 = true := by
  have hb := pickS_bd h 4
  have h1 := hb.2.1 (by omega)
  have hq := pickS_ok h 4
  have g := drawT_g (1 + (pickS s 4).1).toNat 0 hq (by omega) (by omega)
  rw [r24_zero] at g
  exact tmap_of_g g.2 (by have g1 := g.1; have e : (tmapS s).1.length = (1 + (pickS s 4).1).toNat := g1; rw [e]; omega)
theorem beat_valid {s : Src} {m : Int} (h : okS s m) {most : Int} (hm : 0 ≤ most ∧ most ≤ 1000) : okF (beatS s most).1.1 (beatS s most).1.2 = true ∧ 0 ≤ (beatS s most).1.1 ∧ (beatS s most).1.1 ≤ 1000 * (beatS s most).1.2 := by
  have hb := beatS_bd h hm
  have hd := okF_bd hb.1
  have : most * (beatS s most).1.2 ≤ 1000 * (beatS s most).1.2 := Int.mul_le_mul_of_nonneg_right hm.2 (by omega)
  exact ⟨hb.1, hb.2.1, by omega⟩
end Go.Proofs.Ytdglkoeojhakhaa
