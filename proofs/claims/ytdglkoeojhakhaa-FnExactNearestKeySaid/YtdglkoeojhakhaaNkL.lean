/- The plain law of NearestKey. Part 1: compareBig is the order of two fractions. Part 2: both searches find the same key. Conditions: as each says. -/
import Derived.Test.YtdglkoeojhakhaaSxP
set_option linter.unusedSimpArgs false
set_option linter.unusedVariables false
namespace Go.Proofs.Ytdglkoeojhakhaa
def cmpB : Nat → Int → Int → Int → Int → Int → Int
  | 0, _, _, _, _, _ => 0
  | n + 1, s, a, b, c, d =>
    if a.tdiv b ≠ c.tdiv d then (if a.tdiv b < c.tdiv d then -s else s)
    else if a.tmod b = 0 ∧ c.tmod d = 0 then 0
    else if a.tmod b = 0 then -s
    else if c.tmod d = 0 then s
    else cmpB n (-s) b (a.tmod b) d (c.tmod d)
theorem cmp_lt {a b c d q r a' c' : Int} (hb : 0 < b) (hd : 0 < d) (h1 : a = b * q + a') (h2 : c = d * r + c') (ha : a' < b) (hc : 0 ≤ c') (h : q < r) : a * d < c * b := by
  have h3 : b * (q + 1) ≤ b * r := Int.mul_le_mul_of_nonneg_left (by omega) (Int.le_of_lt hb)
  have h4 : a < b * r := by rw [Int.mul_add] at h3; omega
  have h5 : a * d < b * r * d := Int.mul_lt_mul_of_pos_right h4 hd
  have h6 : d * r * b ≤ c * b := Int.mul_le_mul_of_nonneg_right (by omega) (Int.le_of_lt hb)
  have h7 : d * r * b = b * r * d := by grind
  omega
theorem cmpB_eq : ∀ (n : Nat) (s a b c d : Int), 0 ≤ a → 0 < b → 0 ≤ c → 0 < d → b ≤ n →
    cmpB n s a b c d = if a * d < c * b then -s else if a * d = c * b then 0 else s
  | 0, s, a, b, c, d, _, hb, _, _, hn => by omega
  | n + 1, s, a, b, c, d, ha, hb, hc, hd, hn => by
    have h1 := (Int.mul_tdiv_add_tmod a b).symm
    have h2 := (Int.mul_tdiv_add_tmod c d).symm
    have h3 := Int.tmod_lt_of_pos a hb
    have h4 := Int.tmod_lt_of_pos c hd
    have h5 := Int.tmod_nonneg b ha
    have h6 := Int.tmod_nonneg d hc
    unfold cmpB
    generalize a.tdiv b = q at *
    generalize c.tdiv d = r at *
    generalize a.tmod b = a' at *
    generalize c.tmod d = c' at *
    by_cases hq : q = r
    · subst hq
      have h7 : a * d - c * b = a' * d - c' * b := by subst h1 h2; grind
      have h8 : 0 < a' → 0 < a' * d := fun h => Int.mul_pos h hd
      have h9 : 0 < c' → 0 < c' * b := fun h => Int.mul_pos h hb
      have h10 : a' = 0 → a' * d = 0 := fun h => by rw [h, Int.zero_mul]
      have h11 : c' = 0 → c' * b = 0 := fun h => by rw [h, Int.zero_mul]
      rw [if_neg (by simp)]
      by_cases e1 : a' = 0 <;> by_cases e2 : c' = 0
      · rw [if_pos ⟨e1, e2⟩, if_neg (by omega), if_pos (by omega)]
      · rw [if_neg (fun h => e2 h.2), if_pos e1, if_pos (by omega)]
      · rw [if_neg (fun h => e1 h.1), if_neg e1, if_pos e2, if_neg (by omega), if_neg (by omega)]
      · rw [if_neg (fun h => e1 h.1), if_neg e1, if_neg e2, cmpB_eq n (-s) b a' d c' (by omega) (by omega) (by omega) (by omega) (by omega)]
        have h12 : b * c' = c' * b := Int.mul_comm _ _
        have h13 : d * a' = a' * d := Int.mul_comm _ _
        rw [h12, h13]
        rcases Int.lt_trichotomy (a' * d) (c' * b) with h | h | h
        · rw [if_neg (by omega), if_neg (by omega), if_pos (by omega)]
        · rw [if_neg (by omega), if_pos (by omega), if_neg (by omega), if_pos (by omega)]
        · rw [if_pos (by omega), if_neg (by omega), if_neg (by omega)]; simp
    · rw [if_pos hq]
      by_cases hl : q < r
      · rw [if_pos hl, if_pos (cmp_lt hb hd h1 h2 h3 h6 hl)]
      · have := cmp_lt hd hb h2 h1 h4 h5 (by omega)
        rw [if_neg hl, if_neg (by omega), if_neg (by omega)]
/-- Two numbers in parts of forty binary digits. -/
theorem parts_lt {h1 l1 h2 l2 p q : Int} (e1 : h1 * 1099511627776 + l1 = p) (e2 : h2 * 1099511627776 + l2 = q) (a1 : 0 ≤ l1) (a2 : l1 < 1099511627776) (b1 : 0 ≤ l2) (b2 : l2 < 1099511627776) :
    (h1 < h2 ∨ h1 = h2 ∧ l1 < l2) ↔ p < q := by omega
theorem mul_parts (a b : Int) : (a / 1099511627776 * b + a % 1099511627776 * b / 1099511627776) * 1099511627776 + a % 1099511627776 * b % 1099511627776 = a * b := by
  have h1 := Int.mul_ediv_add_emod a 1099511627776
  have h2 := Int.mul_ediv_add_emod (a % 1099511627776 * b) 1099511627776
  generalize a / 1099511627776 = q at *
  generalize a % 1099511627776 = r at *
  generalize r * b / 1099511627776 = q2 at *
  generalize r * b % 1099511627776 = r2 at *
  subst h1
  grind
def keyImp (nf df cf : Int → Int) (xn xd : Int) : Nat → Int → Int → Int → Int → Int
  | 0, _, best, _, _ => best
  | n + 1, k, best, num, den =>
    if cf k ≠ 0 then best
    else if best < 0 ∨ max (xn * df k - nf k * xd) (-(xn * df k - nf k * xd)) * den < num * (xd * df k) then
      keyImp nf df cf xn xd n (k + 1) k (max (xn * df k - nf k * xd) (-(xn * df k - nf k * xd))) (xd * df k)
    else keyImp nf df cf xn xd n (k + 1) best num den
/-- whether (bn, bd) is closer to (xn, xd) than (an, ad) -/
def closerK (an ad bn bd xn xd : Int) : Prop :=
  an * xd < xn * ad ∧ (bn * xd ≤ xn * bd ∨ (bn * xd - xn * bd) * ad < (xn * ad - an * xd) * bd)
instance (an ad bn bd xn xd : Int) : Decidable (closerK an ad bn bd xn xd) := by unfold closerK; infer_instance
def keyEnd (best ld : Int) : Option Int := if ld = 0 then none else some best
def keySpec (nf df cf : Int → Int) (xn xd : Int) : Nat → Int → Int → Int → Int → Option Int
  | 0, _, best, _, ld => keyEnd best ld
  | n + 1, k, best, ln, ld =>
    if cf k ≠ 0 then keyEnd best ld
    else if k = 127 ∨ xn * df k ≤ nf k * xd then some (if 0 < k ∧ closerK ln ld (nf k) (df k) xn xd then k else best)
    else keySpec nf df cf xn xd n (k + 1) (if 0 < k ∧ closerK ln ld (nf k) (df k) xn xd then k else best) (nf k) (df k)
def keyRes (best : Int) : Option Int := if best < 0 then none else some best

section
variable {nf df cf : Int → Int} {xn xd : Int}
theorem keyImp_tail (hx : 0 < xd) (hd : ∀ k, 0 ≤ k → k ≤ 127 → cf k = 0 → 0 < df k)
    (hm : ∀ k, 0 ≤ k → k < 127 → cf k = 0 → cf (k + 1) = 0 → nf k * df (k + 1) < nf (k + 1) * df k) :
    ∀ (n : Nat) (k best A B : Int), 0 ≤ k → k + n = 127 → cf k = 0 → 0 ≤ best → 0 < B → xn * df k ≤ nf k * xd → A * (xd * df k) ≤ (nf k * xd - xn * df k) * B →
      keyImp nf df cf xn xd n (k + 1) best A B = best
  | 0, _, _, _, _, _, _, _, _, _, _, _ => rfl
  | n + 1, k, best, A, B, hk, hn, hc, hb, hB, hle, hA => by
    unfold keyImp
    by_cases hc' : cf (k + 1) = 0
    · have hm' := hm k hk (by omega) hc hc'
      have hq := hd k hk (by omega) hc
      have hq' := hd (k + 1) (by omega) (by omega) hc'
      generalize hp : nf k = p at *
      generalize hQ : df k = q at *
      generalize hp' : nf (k + 1) = p' at *
      generalize hQ' : df (k + 1) = q' at *
      -- x ≤ the next one
      have e1 : xn * q' ≤ p' * xd := by
        refine Int.le_of_mul_le_mul_left (a := q) ?_ hq
        have a1 : xn * q * q' ≤ p * xd * q' := Int.mul_le_mul_of_nonneg_right hle (by omega)
        have a2 : p * q' * xd ≤ p' * q * xd := Int.mul_le_mul_of_nonneg_right (by omega) (by omega)
        grind
      have e2 : A * (xd * q') ≤ (p' * xd - xn * q') * B := by
        refine Int.le_of_mul_le_mul_left (a := q) ?_ hq
        have a1 : A * (xd * q) * q' ≤ (p * xd - xn * q) * B * q' := Int.mul_le_mul_of_nonneg_right hA (by omega)
        have a2 : p * q' * (xd * B) ≤ p' * q * (xd * B) := Int.mul_le_mul_of_nonneg_right (by omega) (Int.le_of_lt (Int.mul_pos hx hB))
        grind
      have e3 : max (xn * q' - p' * xd) (-(xn * q' - p' * xd)) = p' * xd - xn * q' := by omega
      rw [e3, if_neg (fun h : cf (k + 1) ≠ 0 => h hc'), if_neg (by omega)]
      exact keyImp_tail hx hd hm n (k + 1) best A B (by omega) (by omega) hc' hb hB (by rw [hp', hQ']; exact e1) (by rw [hp', hQ']; exact e2)
    · rw [if_pos hc']
theorem key_walk (hx : 0 < xd) (hd : ∀ k, 0 ≤ k → k ≤ 127 → cf k = 0 → 0 < df k)
    (hm : ∀ k, 0 ≤ k → k < 127 → cf k = 0 → cf (k + 1) = 0 → nf k * df (k + 1) < nf (k + 1) * df k) :
    ∀ (n : Nat) (k : Int), 0 ≤ k → k + n = 127 → cf k = 0 → nf k * xd < xn * df k →
      keyRes (keyImp nf df cf xn xd n (k + 1) k (xn * df k - nf k * xd) (xd * df k)) = keySpec nf df cf xn xd n (k + 1) k (nf k) (df k)
  | 0, k, hk, hn, hc, hlt => by
    have := hd k hk (by omega) hc
    unfold keyImp keySpec keyRes keyEnd
    rw [if_neg (Int.not_lt.2 hk), if_neg (by omega)]
  | n + 1, k, hk, hn, hc, hlt => by
    have hq := hd k hk (by omega) hc
    unfold keyImp keySpec
    by_cases hc' : cf (k + 1) = 0
    · have hm' := hm k hk (by omega) hc hc'
      have hq' := hd (k + 1) (by omega) (by omega) hc'
      have hcl : closerK (nf k) (df k) (nf (k + 1)) (df (k + 1)) xn xd ↔ (max (xn * df (k + 1) - nf (k + 1) * xd) (-(xn * df (k + 1) - nf (k + 1) * xd)) * (xd * df k) < (xn * df k - nf k * xd) * (xd * df (k + 1))) := by
        unfold closerK
        generalize nf k = p at *
        generalize df k = q at *
        generalize nf (k + 1) = p' at *
        generalize df (k + 1) = q' at *
        by_cases h1 : p' * xd ≤ xn * q'
        · have e3 : max (xn * q' - p' * xd) (-(xn * q' - p' * xd)) = xn * q' - p' * xd := by omega
          rw [e3]
          refine ⟨fun _ => ?_, fun _ => ⟨hlt, .inl h1⟩⟩
          have a2 : p * q' * (xd * xd) < p' * q * (xd * xd) := Int.mul_lt_mul_of_pos_right hm' (Int.mul_pos hx hx)
          grind
        · have e3 : max (xn * q' - p' * xd) (-(xn * q' - p' * xd)) = p' * xd - xn * q' := by omega
          rw [e3]
          have a3 : (p' * xd - xn * q') * (xd * q) = xd * ((p' * xd - xn * q') * q) := by grind
          have a4 : (xn * q - p * xd) * (xd * q') = xd * ((xn * q - p * xd) * q') := by grind
          rw [a3, a4]
          constructor
          · rintro ⟨_, h | h⟩
            · exact absurd h h1
            · exact Int.mul_lt_mul_of_pos_left h hx
          · intro h
            exact ⟨hlt, .inr (Int.lt_of_mul_lt_mul_left h (by omega))⟩
      rw [if_neg (fun h : cf (k + 1) ≠ 0 => h hc'), if_neg (fun h : cf (k + 1) ≠ 0 => h hc')]
      by_cases hle : xn * df (k + 1) ≤ nf (k + 1) * xd
      · rw [if_pos (show k + 1 = 127 ∨ xn * df (k + 1) ≤ nf (k + 1) * xd from .inr hle)]
        have e3 : max (xn * df (k + 1) - nf (k + 1) * xd) (-(xn * df (k + 1) - nf (k + 1) * xd)) = nf (k + 1) * xd - xn * df (k + 1) := by omega
        rw [e3] at hcl ⊢
        by_cases hcc : closerK (nf k) (df k) (nf (k + 1)) (df (k + 1)) xn xd
        · rw [if_pos (.inr (hcl.1 hcc)), if_pos ⟨by omega, hcc⟩, keyImp_tail hx hd hm n (k + 1) (k + 1) _ _ (by omega) (by omega) hc' (by omega) (Int.mul_pos hx hq') hle (Int.le_refl _), keyRes, if_neg (by omega)]
        · rw [if_neg (fun h => h.elim (by omega) fun h => hcc (hcl.2 h)), if_neg (fun h => hcc h.2), keyImp_tail hx hd hm n (k + 1) k _ _ (by omega) (by omega) hc' (by omega) (Int.mul_pos hx hq) hle (Int.not_lt.1 fun h => hcc (hcl.2 h)), keyRes, if_neg (by omega)]
      · have e3 : max (xn * df (k + 1) - nf (k + 1) * xd) (-(xn * df (k + 1) - nf (k + 1) * xd)) = xn * df (k + 1) - nf (k + 1) * xd := by omega
        have hcc : closerK (nf k) (df k) (nf (k + 1)) (df (k + 1)) xn xd := ⟨hlt, .inl (by omega)⟩
        rw [if_pos (.inr (hcl.1 hcc)), e3]
        by_cases h7 : k + 1 = 127
        · rw [if_pos (show k + 1 = 127 ∨ xn * df (k + 1) ≤ nf (k + 1) * xd from .inl h7), if_pos ⟨by omega, hcc⟩]
          have : n = 0 := by omega
          subst this
          rw [keyImp, keyRes, if_neg (by omega)]
        · rw [if_neg (show ¬(k + 1 = 127 ∨ xn * df (k + 1) ≤ nf (k + 1) * xd) from fun h => h.elim h7 hle), if_pos ⟨by omega, hcc⟩]
          exact key_walk hx hd hm n (k + 1) (by omega) (by omega) hc' (by omega)
    · rw [if_pos hc', if_pos hc', keyRes, keyEnd, if_neg (by omega), if_neg (by omega)]
theorem key_same (hx : 0 < xd) (hd : ∀ k, 0 ≤ k → k ≤ 127 → cf k = 0 → 0 < df k)
    (hm : ∀ k, 0 ≤ k → k < 127 → cf k = 0 → cf (k + 1) = 0 → nf k * df (k + 1) < nf (k + 1) * df k) :
    keyRes (keyImp nf df cf xn xd 128 0 (-1) 0 1) = keySpec nf df cf xn xd 128 0 0 0 0 := by
  unfold keyImp keySpec
  by_cases hc : cf 0 = 0
  · have hq := hd 0 (by omega) (by omega) hc
    rw [if_neg (fun h : cf 0 ≠ 0 => h hc), if_neg (fun h : cf 0 ≠ 0 => h hc), if_pos (.inl (by omega)), if_neg (fun h : (0 : Int) < 0 ∧ _ => absurd h.1 (by omega))]
    by_cases hle : xn * df 0 ≤ nf 0 * xd
    · have e3 : max (xn * df 0 - nf 0 * xd) (-(xn * df 0 - nf 0 * xd)) = nf 0 * xd - xn * df 0 := by omega
      rw [if_pos (show (0 : Int) = 127 ∨ xn * df 0 ≤ nf 0 * xd from .inr hle), e3, keyImp_tail hx hd hm 127 0 0 _ _ (by omega) (by omega) hc (by omega) (Int.mul_pos hx hq) hle (Int.le_refl _), keyRes, if_neg (by omega)]
    · have e3 : max (xn * df 0 - nf 0 * xd) (-(xn * df 0 - nf 0 * xd)) = xn * df 0 - nf 0 * xd := by omega
      rw [if_neg (show ¬((0 : Int) = 127 ∨ xn * df 0 ≤ nf 0 * xd) from fun h => h.elim (by omega) hle), e3]
      exact key_walk hx hd hm 127 0 (by omega) (by omega) hc (by omega)
  · rw [if_pos hc, if_pos hc]; rfl
end
end Go.Proofs.Ytdglkoeojhakhaa
