/- The plain law of spelled keys at the middle of the line of fifths: both searches find one pitch, for every key 0 to 127 (checked in the kernel). No condition. -/
import Derived.Test.YtemlpimibhijoaaJk
set_option linter.unusedSimpArgs false
set_option linter.unusedVariables false
namespace Go.Proofs.Ytemlpimibhijoaa
open Go.RowKit Sx
def spAgree (key : Int) : Bool := (spBest key 0).1 == (sqBest key 0).1 && ((spBest key 0).2.1 == (sqBest key 0).2.1 && (spBest key 0).2.2.1 == (sqBest key 0).2.2.1)
theorem spAll0 : ((List.range 128).all fun i => spAgree (i : Int)) = true := by decide +kernel
/-- The pitch with a key. -/
def pKey (key : Int) : tPitch.den := ((spBest key 0).1, (spBest key 0).2.1, (spBest key 0).2.2.1)
theorem sp_same {key : Int} (h : 0 ≤ key ∧ key ≤ 127) : ((sqBest key 0).1, (sqBest key 0).2.1, (sqBest key 0).2.2.1) = pKey key := by
  have h0 := spAll0
  simp only [List.all_eq_true, List.mem_range] at h0
  have h1 := h0 key.toNat (by omega)
  rw [show ((key.toNat : Nat) : Int) = key by omega] at h1
  simp only [spAgree, Bool.and_eq_true, beq_iff_eq] at h1
  unfold pKey
  rw [h1.1, h1.2.1, h1.2.2]
end Go.Proofs.Ytemlpimibhijoaa
