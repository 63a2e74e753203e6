/- The law on RatioOfKeys, by the evaluator. Conditions: as each says. -/
import Derived.Test.YtemlpimibhijoaaFi
set_option linter.unusedSimpArgs false
set_option linter.unusedVariables false
namespace Go.Proofs.Ytemlpimibhijoaa
open Go.RowKit Sx
set_option maxRecDepth 100000
set_option maxHeartbeats 1000000
theorem tune_at {x : tTuning.den} (h : tuneF x = true) (i : Nat) (hi : i < (x.2.2 : List tFrac.den).length) : okF (atF x.2.2 i).1 (atF x.2.2 i).2 = true := by
  have hs := rat_split x.2.2 x.2.1.1 x.2.1.2 (x.2.2 : List tFrac.den).length 0 (by omega)
  rw [List.drop_zero] at hs
  simp only [tuneF, hs, Bool.and_eq_true] at h
  exact okFs_get h.2.2.2.2.2.2.1 i hi
theorem freqF_code {x : tTuning.den} (h : tuneF x = true) (key : Int) (hk : 0 ≤ key ∧ key ≤ 127) : (freqF x key).2 = 0 ∨ (freqF x key).2 = 2 := by
  have hb := tune_bd h
  have hd := div_key key ((x.2.2 : List tFrac.den).length : Int) hk (by omega)
  unfold freqF
  split
  · rcases mulF_ok (freqGo_ok hb.2.1 (key / ((x.2.2 : List tFrac.den).length : Int)).toNat x.1 hb.1) (tune_at h (key % ((x.2.2 : List tFrac.den).length : Int)).toNat (by omega)) with g | g
    · exact .inl g.1
    · exact .inr g.1
  · exact .inr rfl
def fokF (x : tTuning.den) (key : Int) : (Int × Int) × Int := if tuneF x = true then (if inB key 0 127 = true then freqF x key else ((0, 0), 2)) else ((0, 0), 1)
theorem fokF_code (x : tTuning.den) (key : Int) : (tuneF x = false → (fokF x key).2 = 1) ∧ (tuneF x = true → (fokF x key).2 = 0 ∨ (fokF x key).2 = 2) := by
  refine ⟨fun h => by simp [fokF, h], fun h => ?_⟩
  unfold fokF
  rw [if_pos h]
  split
  · rename_i hk; exact freqF_code h key ((inB_iff _ _ _).1 hk)
  · exact .inr rfl
def ratioF (x : tTuning.den) (lo hi : Int) : (Int × Int) × Int := if (fokF x lo).2 = 0 ∧ (fokF x hi).2 = 0 then divF (fokF x hi).1.1 (fokF x hi).1.2 (fokF x lo).1.1 (fokF x lo).1.2 else ((0, 0), if tuneF x = true then 2 else 1)

def C_Fj : FuncId → Option Ct := C_Fi
theorem C_Fj_ok : COk Try.prog C_Fj := C_Fi_ok
end Go.Proofs.Ytemlpimibhijoaa
