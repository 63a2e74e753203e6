/- Contracts: valid scores, of the program and the reference. Conditions: as each says. -/
import Derived.Test.YtkeckmdmmbeaiaaDoorFd
set_option linter.unusedSimpArgs false
set_option linter.unusedVariables false
namespace Go.Proofs.YtkeckmdmmbeaiaaDoor
open Go.RowKit Sx
set_option maxRecDepth 100000
set_option maxHeartbeats 1000000
theorem noteF_bd {x : tNote.den} (h : noteF x = true) : ((1 ≤ x.1.2 ∧ x.1.2 ≤ 1000000) ∧ (-1000000000 ≤ x.1.1 ∧ x.1.1 ≤ 1000000000)) ∧ (0 ≤ x.2.2.1 ∧ x.2.2.1 ≤ 127) ∧ (0 ≤ x.2.2.2.2 ∧ x.2.2.2.2 ≤ 15) := by
  simp only [noteF, beatF, Bool.and_eq_true, inB_iff] at h
  exact ⟨okF_bd h.1.1, h.2.2.2.2.1, h.2.2.2.2.2.2⟩
def cmpN (x y : tNote.den) : Int := if cmpF x.1.1 x.1.2 y.1.1 y.1.2 ≠ 0 then cmpF x.1.1 x.1.2 y.1.1 y.1.2 else if x.2.2.2.2 ≠ y.2.2.2.2 then x.2.2.2.2 - y.2.2.2.2 else x.2.2.1 - y.2.2.1
theorem cmpF_bd (a b c d : Int) : -1 ≤ cmpF a b c d ∧ cmpF a b c d ≤ 1 := by
  unfold cmpF
  repeat' split
  all_goals omega
def notesF (xs : List tNote.den) : Bool := xs.all noteF
theorem notesF_drop (xs : List tNote.den) (i : Nat) (z : tNote.den) (h : i < xs.length) : notesF (xs.drop i) = (noteF (xs.getD i z) && notesF (xs.drop (i + 1))) := by
  rw [getD_lt _ _ _ h, List.drop_eq_getElem_cons h]
  rfl
theorem notesF_get {xs : List tNote.den} (h : notesF xs = true) (i : Nat) (z : tNote.den) (hi : i < xs.length) : noteF (xs.getD i z) = true := by
  rw [getD_lt _ _ _ hi]
  exact List.all_eq_true.1 h _ (List.getElem_mem hi)
def sortF (xs : List tNote.den) : Nat → Nat → Bool
  | 0, _ => true
  | n + 1, i => decide (cmpN (xs.getD (i - 1) tNote.zero) (xs.getD i tNote.zero) < 0) && sortF xs n (i + 1)
def bothF (xs : List tNote.den) : Nat → Nat → Bool
  | 0, _ => true
  | n + 1, i => noteF (xs.getD i tNote.zero) && (decide (i = 0 ∨ cmpN (xs.getD (i - 1) tNote.zero) (xs.getD i tNote.zero) < 0) && bothF xs n (i + 1))
def scoreF (xs : List tNote.den) : Bool := decide (xs.length ≤ 60) && bothF xs xs.length 0
theorem sortF_go (xs : List tNote.den) (i : Nat) (h : i < xs.length) : sortF xs (xs.length - i) i = (decide (cmpN (xs.getD (i - 1) tNote.zero) (xs.getD i tNote.zero) < 0) && sortF xs (xs.length - (i + 1)) (i + 1)) := by
  rw [show xs.length - i = (xs.length - (i + 1)) + 1 by omega]; rfl
theorem bothF_go (xs : List tNote.den) (i : Nat) (h : i < xs.length) : bothF xs (xs.length - i) i = (noteF (xs.getD i tNote.zero) && (decide (i = 0 ∨ cmpN (xs.getD (i - 1) tNote.zero) (xs.getD i tNote.zero) < 0) && bothF xs (xs.length - (i + 1)) (i + 1))) := by
  rw [show xs.length - i = (xs.length - (i + 1)) + 1 by omega]; rfl
theorem both_split (xs : List tNote.den) : ∀ (n i : Nat), i + n = xs.length → 0 < i → bothF xs n i = (notesF (xs.drop i) && sortF xs n i)
  | 0, i, h, _ => by rw [show i = xs.length by omega, List.drop_length]; rfl
  | n + 1, i, h, h0 => by
    rw [notesF_drop xs i tNote.zero (by omega)]
    show (noteF _ && (decide _ && bothF xs n (i + 1))) = _
    rw [both_split xs n (i + 1) (by omega) (by omega)]
    show _ = (_ && _ && (decide _ && sortF xs n (i + 1)))
    rw [show decide (i = 0 ∨ cmpN (xs.getD (i - 1) tNote.zero) (xs.getD i tNote.zero) < 0) = decide (cmpN (xs.getD (i - 1) tNote.zero) (xs.getD i tNote.zero) < 0) from decide_eq_decide.2 ⟨fun h => h.resolve_left (by omega), .inr⟩]
    generalize noteF (xs.getD i tNote.zero) = b1
    generalize decide (cmpN (xs.getD (i - 1) tNote.zero) (xs.getD i tNote.zero) < 0) = b2
    generalize notesF (xs.drop (i + 1)) = b3
    generalize sortF xs n (i + 1) = b4
    cases b1 <;> cases b2 <;> cases b3 <;> cases b4 <;> rfl
theorem both_all (xs : List tNote.den) : bothF xs xs.length 0 = (notesF xs && sortF xs (xs.length - 1) 1) := by
  cases hl : xs.length with
  | zero => rw [List.eq_nil_of_length_eq_zero hl]; rfl
  | succ n =>
    have h1 := notesF_drop xs 0 tNote.zero (by omega)
    rw [List.drop_zero] at h1
    show (noteF _ && (decide _ && bothF xs n 1)) = _
    rw [both_split xs n 1 (by omega) (by omega), h1]
    simp [Bool.and_assoc]

def C_Fe : FuncId → Option Ct := C_Fd
theorem C_Fe_ok : COk Tryd.prog C_Fe := C_Fd_ok
end Go.Proofs.YtkeckmdmmbeaiaaDoor
