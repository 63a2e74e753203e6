/- Contracts: rows of pitches that are compared, marked, and looked at again. Conditions: as each says. -/
import Derived.Test.YtkeckmdmmbeaiaaGreatDoorPb
set_option linter.unusedSimpArgs false
set_option linter.unusedVariables false
namespace Go.Proofs.YtkeckmdmmbeaiaaGreatDoor
open Go.RowKit Sx
set_option maxRecDepth 100000
set_option maxHeartbeats 1000000
def rowMark {α : Type} (f : Int → α) (s : Int) : Nat → Int → List α
  | 0, _ => []
  | n + 1, k => f k :: rowMark f s n (k + s)
theorem rowMark_length {α : Type} (f : Int → α) (s : Int) : ∀ (n : Nat) (k : Int), (rowMark f s n k).length = n
  | 0, _ => rfl
  | n + 1, k => by simp [rowMark, rowMark_length f s n]
theorem getD_set_self {α : Type} (l : List α) (i : Nat) (a z : α) (h : i < l.length) : (l.set i a).getD i z = a := by
  simp [List.getD, h]
theorem rowMark_step {α : Type} (f : Int → α) (s : Int) (xs : List α) (i : Nat) (k : Int) (h : i < xs.length) : (xs.set i (f k)).take (i + 1) ++ rowMark f s (xs.length - (i + 1)) (k + s) = xs.take i ++ rowMark f s (xs.length - i) k := by
  rw [show xs.length - i = (xs.length - (i + 1)) + 1 by omega, List.take_succ_eq_append_getElem (by simp; omega)]
  simp [rowMark, List.take_set]
  rw [List.set_eq_of_length_le (by simp; omega)]
theorem rowHeld_step {α : Type} (f : Int → α) (s : Int) (xs : List α) (i : Nat) (k : Int) (z : α) (h : i < xs.length) : xs.drop i = rowMark f s (xs.length - i) k ↔ xs.getD i z = f k ∧ xs.drop (i + 1) = rowMark f s (xs.length - (i + 1)) (k + s) := by
  rw [show xs.length - i = (xs.length - (i + 1)) + 1 by omega, List.drop_eq_getElem_cons h, getD_lt _ _ _ h]
  simp only [rowMark, List.cons.injEq]
theorem mulN_step (s : Int) (n i : Nat) (h : i < n) : s * ((n - i : Nat) : Int) = s + s * ((n - (i + 1) : Nat) : Int) := by
  rw [show ((n - i : Nat) : Int) = 1 + ((n - (i + 1) : Nat) : Int) by omega, Int.mul_add, Int.mul_one]
def heldR {α : Type} [DecidableEq α] (f : Int → α) (s : Int) (xs : List α) (k : Int) : Int := if xs = rowMark f s xs.length k then k + s * (xs.length : Int) else -1
def mkPitchV (k : Int) : tPitch.den := (k, k + 1, k + 2)
theorem heldR_mark {α : Type} [DecidableEq α] (f : Int → α) (s : Int) (n : Nat) (k : Int) : heldR f s (rowMark f s n k) k = k + s * (n : Int) := by
  simp [heldR, rowMark_length]

def C_Um : FuncId → Option Ct := C_Pb
theorem C_Um_ok : COk Tryz.prog C_Um := C_Pb_ok
end Go.Proofs.YtkeckmdmmbeaiaaGreatDoor
