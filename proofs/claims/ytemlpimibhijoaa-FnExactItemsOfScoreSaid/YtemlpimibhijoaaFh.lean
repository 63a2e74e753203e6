/- Contracts: valid tunings, of the program and the reference. Conditions: as each says. -/
import Derived.Test.YtemlpimibhijoaaFg
set_option linter.unusedSimpArgs false
set_option linter.unusedVariables false
namespace Go.Proofs.Ytemlpimibhijoaa
open Go.RowKit Sx
set_option maxRecDepth 100000
set_option maxHeartbeats 1000000
abbrev Fr := Int × Int
def atF (rs : List tFrac.den) (i : Nat) : Fr := rs.getD i tFrac.zero
def ordT (rs : List tFrac.den) (a b : Int) : Nat → Nat → Bool
  | 0, _ => true
  | n + 1, i => decide (cmpF (atF rs i).1 (atF rs i).2 a b < 0) && (decide (i = 0 ∨ cmpF (atF rs (i - 1)).1 (atF rs (i - 1)).2 (atF rs i).1 (atF rs i).2 < 0) && ordT rs a b n (i + 1))
def ratT (rs : List tFrac.den) (a b : Int) : Nat → Nat → Bool
  | 0, _ => true
  | n + 1, i => okF (atF rs i).1 (atF rs i).2 && (decide (cmpF (atF rs i).1 (atF rs i).2 a b < 0) && (decide (i = 0 ∨ cmpF (atF rs (i - 1)).1 (atF rs (i - 1)).2 (atF rs i).1 (atF rs i).2 < 0) && ratT rs a b n (i + 1)))
theorem ordT_go (rs : List tFrac.den) (a b : Int) (i : Nat) (h : i < rs.length) : ordT rs a b (rs.length - i) i = (decide (cmpF (atF rs i).1 (atF rs i).2 a b < 0) && (decide (i = 0 ∨ cmpF (atF rs (i - 1)).1 (atF rs (i - 1)).2 (atF rs i).1 (atF rs i).2 < 0) && ordT rs a b (rs.length - (i + 1)) (i + 1))) := by
  rw [show rs.length - i = (rs.length - (i + 1)) + 1 by omega]; rfl
theorem ratT_go (rs : List tFrac.den) (a b : Int) (i : Nat) (h : i < rs.length) : ratT rs a b (rs.length - i) i = (okF (atF rs i).1 (atF rs i).2 && (decide (cmpF (atF rs i).1 (atF rs i).2 a b < 0) && (decide (i = 0 ∨ cmpF (atF rs (i - 1)).1 (atF rs (i - 1)).2 (atF rs i).1 (atF rs i).2 < 0) && ratT rs a b (rs.length - (i + 1)) (i + 1)))) := by
  rw [show rs.length - i = (rs.length - (i + 1)) + 1 by omega]; rfl
theorem rat_split (rs : List tFrac.den) (a b : Int) : ∀ (n i : Nat), i + n = rs.length → ratT rs a b n i = (okFs (rs.drop i) && ordT rs a b n i)
  | 0, i, h => by rw [show i = rs.length by omega, List.drop_length]; rfl
  | n + 1, i, h => by
    rw [okFs_drop rs i tFrac.zero (by omega)]
    show (okF _ _ && (decide _ && (decide _ && ratT rs a b n (i + 1)))) = (okF (atF rs i).1 (atF rs i).2 && _ && (decide _ && (decide _ && ordT rs a b n (i + 1))))
    rw [rat_split rs a b n (i + 1) (by omega)]
    generalize okF (atF rs i).1 (atF rs i).2 = b1
    generalize decide (cmpF (atF rs i).1 (atF rs i).2 a b < 0) = b2
    generalize decide (i = 0 ∨ cmpF (atF rs (i - 1)).1 (atF rs (i - 1)).2 (atF rs i).1 (atF rs i).2 < 0) = b3
    generalize okFs (rs.drop (i + 1)) = b4
    generalize ordT rs a b n (i + 1) = b5
    cases b1 <;> cases b2 <;> cases b3 <;> cases b4 <;> cases b5 <;> rfl
theorem okFs_get {xs : List tFrac.den} (h : okFs xs = true) (i : Nat) (hi : i < xs.length) : okF (atF xs i).1 (atF xs i).2 = true := by
  unfold atF
  rw [getD_lt _ _ _ hi]
  exact List.all_eq_true.1 h _ (List.getElem_mem hi)
def tuneF (x : tTuning.den) : Bool := okF x.1.1 x.1.2 && (decide (0 < x.1.1) && (okF x.2.1.1 x.2.1.2 && (decide (0 < cmpF x.2.1.1 x.2.1.2 1 1) && (decide (1 ≤ (x.2.2 : List tFrac.den).length ∧ (x.2.2 : List tFrac.den).length ≤ 24) && (decide ((atF x.2.2 0).1 = 1 ∧ (atF x.2.2 0).2 = 1) && ratT x.2.2 x.2.1.1 x.2.1.2 (x.2.2 : List tFrac.den).length 0)))))

def C_Fh : FuncId → Option Ct := C_Fg
theorem C_Fh_ok : COk Try.prog C_Fh := C_Fg_ok
end Go.Proofs.Ytemlpimibhijoaa
