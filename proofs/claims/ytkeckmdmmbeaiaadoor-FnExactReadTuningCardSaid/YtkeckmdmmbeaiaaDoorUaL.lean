/- Plain laws: the decimal numeral, as the reference makes it. Conditions: as each says. -/
import Derived.Test.YtkeckmdmmbeaiaaDoorSxP
import Derived.Lib.ItoaNum
import Derived.Lib.Repeat
set_option linter.unusedSimpArgs false
set_option linter.unusedVariables false
namespace Go.Proofs.YtkeckmdmmbeaiaaDoor
open Go.RowKit Sx
/-- The digits of m, none for 0. -/
def dgI (m : Nat) : List Int := if h : m = 0 then [] else dgI (m / 10) ++ [48 + ((m % 10 : Nat) : Int)]
termination_by m
decreasing_by omega
theorem dgI_zero : dgI 0 = [] := by rw [dgI, dif_pos rfl]
theorem dgI_pos {m : Nat} (h : m ≠ 0) : dgI m = dgI (m / 10) ++ [48 + ((m % 10 : Nat) : Int)] := by rw [dgI, dif_neg h]
theorem toU8_app (a b : List Int) : toU8 (a ++ b) = toU8 a ++ toU8 b := by unfold toU8; exact List.map_append
theorem dgI_ne {m : Nat} (h : m ≠ 0) : dgI m ≠ [] := by rw [dgI_pos h]; simp
theorem dgI_dec (m : Nat) (h : m ≠ 0) : toU8 (dgI m) = Go.Lib.decDigits m := by
  induction m using Nat.strongRecOn with
  | _ m ih =>
    have hd : toU8 [48 + ((m % 10 : Nat) : Int)] = [UInt8.ofNat (48 + m % 10)] := by
      have hl : m % 10 < 10 := by omega
      generalize m % 10 = d at *
      unfold toU8
      simp only [List.map_cons, List.map_nil, List.cons.injEq, and_true]
      show _ = _
      rw [show (48 + (d : Int)).toNat = 48 + d by omega]
    rw [dgI_pos h, toU8_app, hd]
    by_cases h10 : m < 10
    · rw [Go.Lib.decDigits, dif_pos h10, show m / 10 = 0 by omega, dgI_zero, show m % 10 = m by omega]
      rfl
    · rw [Go.Lib.decDigits, dif_neg h10, ih (m / 10) (by omega) (by omega)]
theorem dgI_mem (m : Nat) : ∀ z ∈ dgI m, 48 ≤ z ∧ z ≤ 57 := by
  induction m using Nat.strongRecOn with
  | _ m ih =>
    by_cases h : m = 0
    · subst h; rw [dgI_zero]; simp
    · rw [dgI_pos h]
      intro z hz
      rcases List.mem_append.1 hz with h1 | h1
      · exact ih (m / 10) (by omega) z h1
      · rw [List.mem_singleton] at h1; omega
theorem dgI_len (m : Nat) : ∀ k, m < 10 ^ k → (dgI m).length ≤ k
  := by
  intro k
  induction k generalizing m with
  | zero => intro h; have : m = 0 := by simpa using h
            subst this; rw [dgI_zero]; simp
  | succ k ih =>
    intro h
    by_cases h0 : m = 0
    · subst h0; rw [dgI_zero]; simp
    · rw [dgI_pos h0, List.length_append]
      have := ih (m / 10) (by rw [Nat.pow_succ] at h; omega)
      simpa using this
/-- The numeral of n. -/
def decT (n : Int) : List UInt8 := Go.Lib.itoa n
theorem decT_zero : decT 0 = [48] := by unfold decT Go.Lib.itoa; rw [if_neg (by decide)]; show Go.Lib.decDigits 0 = _; rw [Go.Lib.decDigits]; rfl
theorem decT_pos {n : Int} (h : 0 < n) : decT n = toU8 (dgI n.natAbs) := by
  unfold decT Go.Lib.itoa
  rw [if_neg (by omega), show n.toNat = n.natAbs by omega, dgI_dec _ (by omega)]
theorem decT_neg {n : Int} (h : n < 0) : decT n = 45 :: toU8 (dgI n.natAbs) := by
  unfold decT Go.Lib.itoa
  rw [if_pos h, dgI_dec _ (by omega)]
theorem dgI_nil (l : List Int) : dgI 0 ++ l = l := by rw [dgI_zero]; rfl
theorem dgI_step {k : Int} (h : k ≠ 0) (l : List Int) : dgI k.natAbs ++ l = dgI (Int.tdiv k 10).natAbs ++ (48 + ((k.natAbs % 10 : Nat) : Int)) :: l := by
  rw [dgI_pos (by omega), show (Int.tdiv k 10).natAbs = k.natAbs / 10 from Int.natAbs_tdiv k 10, List.append_assoc]
  rfl
theorem tmod_abs (k : Int) : (if Int.tmod k 10 < 0 then - Int.tmod k 10 else Int.tmod k 10) = ((k.natAbs % 10 : Nat) : Int) := by
  have h : (Int.tmod k 10).natAbs = k.natAbs % 10 := Int.natAbs_tmod k 10
  split <;> omega
theorem decT_len {n : Int} (h : -1000000000000000000 ≤ n ∧ n ≤ 1000000000000000000) : (decT n).length ≤ 20 := by
  have h8 : ∀ l : List Int, (toU8 l).length = l.length := fun l => by unfold toU8; exact List.length_map _
  rcases Int.lt_trichotomy n 0 with h1 | h1 | h1
  · rw [decT_neg h1, List.length_cons, h8]
    have := dgI_len n.natAbs 19 (by omega)
    omega
  · subst h1; rw [decT_zero]; decide
  · rw [decT_pos h1, h8]
    have := dgI_len n.natAbs 19 (by omega)
    omega
end Go.Proofs.YtkeckmdmmbeaiaaDoor
