/- The evaluator over this seat's program; the types of its data. No condition. -/
import Derived.Test.YtniaandjfafdkaaSxL
import Derived.Test.YtniaandjfafdkaaProg
set_option linter.unusedSimpArgs false
set_option linter.unusedVariables false
namespace Go.Proofs.Ytniaandjfafdkaa
open Go.RowKit Sx
theorem mixedOk : Try.prog.follows .mixedOrders = true := by kernel_rfl
abbrev I64 : Ty := .int .i64
abbrev tFrac : Ty := .pair I64 I64
abbrev tPitch : Ty := .pair I64 (.pair I64 I64)
abbrev tIv : Ty := .pair I64 I64
abbrev tTempo : Ty := .pair tFrac I64
abbrev tNote : Ty := .pair tFrac (.pair tFrac (.pair I64 (.pair I64 I64)))
def inB (n lo hi : Int) : Bool := decide (lo ≤ n) && decide (n ≤ hi)
theorem inB_iff (n lo hi : Int) : inB n lo hi = true ↔ lo ≤ n ∧ n ≤ hi := by simp [inB]
theorem inB_no (n lo hi : Int) : inB n lo hi = false ↔ ¬ (lo ≤ n ∧ n ≤ hi) := by rw [← inB_iff]; simp
theorem fdiv_rule (a b : Int) : 1 ≤ b → (a.tmod b < 0 → a.tdiv b - 1 = a / b) ∧ (¬ a.tmod b < 0 → a.tdiv b = a / b) := by
  intro hb
  rw [Int.tmod_eq_emod, Int.tdiv_eq_ediv]
  have h1 := Int.emod_nonneg a (b := b) (by omega)
  have h2 := Int.emod_lt_of_pos a (b := b) (by omega)
  have h3 : b.natAbs = b := by omega
  have h4 : b.sign = 1 := Int.sign_eq_one_of_pos (by omega)
  refine ⟨fun h => ?_, fun h => ?_⟩
  · split at h
    · omega
    · rename_i hc; rw [if_neg hc, h4]; omega
  · split at h
    · rename_i hc; rw [if_pos hc]; omega
    · omega
theorem tdiv_small (a b : Int) : 1 ≤ b → (-a.natAbs ≤ a.tdiv b ∧ a.tdiv b ≤ a.natAbs) := by
  intro hb
  have h : (a.tdiv b).natAbs ≤ a.natAbs := by rw [Int.natAbs_tdiv]; exact Nat.div_le_self _ _
  omega
theorem tmod_rule (a b : Int) : 1 ≤ b → (a.tmod b < 0 → a.tmod b + b = a % b) ∧ (¬ a.tmod b < 0 → a.tmod b = a % b) ∧ -b < a.tmod b ∧ a.tmod b < b := by
  intro hb
  rw [Int.tmod_eq_emod]
  have h1 := Int.emod_nonneg a (b := b) (by omega)
  have h2 := Int.emod_lt_of_pos a (b := b) (by omega)
  have h3 : b.natAbs = b := by omega
  split <;> omega
/-- A next round: what the note asks of its data, and that it leads to the same end. -/
theorem loop_next {a : Nd} {b : LTree} {x : Ex × List AV × List (List AV)} : (∃ p t, (some (a, b) : Option (Nd × LTree)) = some (p, t) ∧ p.ok ∧ t.val = x) ↔ a.ok ∧ b.val = x := by
  constructor
  · rintro ⟨p, t, h, h1, h2⟩
    simp only [Option.some.injEq, Prod.mk.injEq] at h
    obtain ⟨rfl, rfl⟩ := h
    exact ⟨h1, h2⟩
  · rintro ⟨h1, h2⟩
    exact ⟨_, _, rfl, h1, h2⟩
end Go.Proofs.Ytniaandjfafdkaa
