/- The evaluator over this seat's program; the types of its data. No condition. -/
import Derived.Test.YtemlpimibhijoaaSxL
import Derived.Test.YtemlpimibhijoaaProg
set_option linter.unusedSimpArgs false
set_option linter.unusedVariables false
namespace Go.Proofs.Ytemlpimibhijoaa
open Go.RowKit Sx
theorem mixedOk : Try.prog.follows .mixedOrders = true := by kernel_rfl
abbrev I64 : Ty := .int .i64
abbrev tFrac : Ty := .pair I64 I64
abbrev tPitch : Ty := .pair I64 (.pair I64 I64)
abbrev tIv : Ty := .pair I64 I64
abbrev tTempo : Ty := .pair tFrac I64
abbrev tNote : Ty := .pair tFrac (.pair tFrac (.pair I64 (.pair I64 I64)))
abbrev qFrac : Ty := .seq tFrac
abbrev qTempo : Ty := .seq tTempo
abbrev qNote : Ty := .seq tNote
abbrev qPitch : Ty := .seq tPitch
abbrev tItem : Ty := .pair I64 (.pair (.seq tPitch) (.pair tFrac (.pair I64 (.pair tIv I64))))
abbrev qItem : Ty := .seq tItem
def inB (n lo hi : Int) : Bool := decide (lo ≤ n) && decide (n ≤ hi)
theorem inB_iff (n lo hi : Int) : inB n lo hi = true ↔ lo ≤ n ∧ n ≤ hi := by simp [inB]
theorem inB_no (n lo hi : Int) : inB n lo hi = false ↔ ¬ (lo ≤ n ∧ n ≤ hi) := by rw [← inB_iff]; simp
theorem fdiv_rule (a b : Int) : 1 ≤ b → (a.tmod b < 0 → a.tdiv b - 1 = a / b) ∧ (¬ a.tmod b < 0 → a.tdiv b = a / b) := by
  intro hb
  rw [Int.tmod_eq_emod, Int.tdiv_eq_ediv]
  have h1 := Int.emod_nonneg a (b := b) (by omega)
  have h2 := Int.emod_lt_of_pos a (b := b) (by omega)
  have h3 : b.natAbs = b := by omega
  have h4 : b.sign = 1 := Int.sign_eq_one_of_pos (by omega)
  refine ⟨fun h => ?_, fun h => ?_⟩
  · split at h
    · omega
    · rename_i hc; rw [if_neg hc, h4]; omega
  · split at h
    · rename_i hc; rw [if_pos hc]; omega
    · omega
theorem tdiv_small (a b : Int) : 1 ≤ b → (-a.natAbs ≤ a.tdiv b ∧ a.tdiv b ≤ a.natAbs) := by
  intro hb
  have h : (a.tdiv b).natAbs ≤ a.natAbs := by rw [Int.natAbs_tdiv]; exact Nat.div_le_self _ _
  omega
theorem tmod_rule (a b : Int) : 1 ≤ b → (a.tmod b < 0 → a.tmod b + b = a % b) ∧ (¬ a.tmod b < 0 → a.tmod b = a % b) ∧ -b < a.tmod b ∧ a.tmod b < b := by
  intro hb
  rw [Int.tmod_eq_emod]
  have h1 := Int.emod_nonneg a (b := b) (by omega)
  have h2 := Int.emod_lt_of_pos a (b := b) (by omega)
  have h3 : b.natAbs = b := by omega
  split <;> omega
/-- A next round: what the note asks of its data, and that it leads to the same end. -/
theorem loop_next {a : Nd} {b : LTree} {x : Ex × List AV × List (List AV)} : (∃ p t, (some (a, b) : Option (Nd × LTree)) = some (p, t) ∧ p.ok ∧ t.val = x) ↔ a.ok ∧ b.val = x := by
  constructor
  · rintro ⟨p, t, h, h1, h2⟩
    simp only [Option.some.injEq, Prod.mk.injEq] at h
    obtain ⟨rfl, rfl⟩ := h
    exact ⟨h1, h2⟩
  · rintro ⟨h1, h2⟩
    exact ⟨_, _, rfl, h1, h2⟩
theorem weakL_nil : weakL [] [] = True := rfl
theorem weakL_unk (x : AV) (xs ys : List AV) : weakL (x :: xs) (.unk :: ys) = (x.noRow ∧ weakL xs ys) := rfl
theorem weakL_guess (x : AV) (xs ys : List AV) (q : Prop) : weakL (x :: xs) (.guess q :: ys) = (x.isRow ∧ weakL xs ys) := rfl
theorem isRow_unk : AV.unk.isRow = True := rfl
theorem isRow_own (t : Ty) (l : List t.den) : (AV.own t l).isRow = True := rfl
theorem weakL_int (x : AV) (xs ys : List AV) (k : IntKind) (n : Int) : weakL (x :: xs) (.int k n :: ys) = (x = .int k n ∧ weakL xs ys) := rfl
theorem weakL_bool (x : AV) (xs ys : List AV) (b : Bool) : weakL (x :: xs) (.bool b :: ys) = (x = .bool b ∧ weakL xs ys) := rfl
theorem weakL_str (x : AV) (xs ys : List AV) (s : List UInt8) : weakL (x :: xs) (.str s :: ys) = (x = .str s ∧ weakL xs ys) := rfl
theorem weakL_own (x : AV) (xs ys : List AV) (t : Ty) (l : List t.den) : weakL (x :: xs) (.own t l :: ys) = (x = .own t l ∧ weakL xs ys) := rfl
theorem weakL_view (x : AV) (xs ys : List AV) (t : Ty) (l : List t.den) : weakL (x :: xs) (.view t l :: ys) = (x = .view t l ∧ weakL xs ys) := rfl
theorem weakL_nilS (x : AV) (xs ys : List AV) : weakL (x :: xs) (.nilS :: ys) = (x = .nilS ∧ weakL xs ys) := rfl
theorem weakBs_nil : weakBs [] [] = True := rfl
theorem weakBs_cons (x y : List AV) (xs ys : List (List AV)) : weakBs (x :: xs) (y :: ys) = (weakB x y ∧ weakBs xs ys) := rfl
theorem weakB_self (x : List AV) : weakB x x = True := by simp [weakB]
theorem weakB_row (t : Ty) (xs ys : List t.den) : weakB [.agg [.own t xs]] [.agg [.own t ys]] = (xs = ys) := by
  simp [weakB, rowEntry]
theorem weakB_int (k : IntKind) (n : Int) (xs ys : List AV) (y : AV) : weakB (.int k n :: xs) (y :: ys) = weakL (.int k n :: xs) (y :: ys) := by
  have h1 : rowEntry (.int k n :: xs) = none := by unfold rowEntry; split <;> simp_all
  simp only [weakB, h1, true_and, eq_iff_iff]
  constructor
  · rintro (h | ⟨_, h⟩)
    · rw [← h]; exact weakL_refl _
    · exact h
  · intro h
    refine .inr ⟨?_, h⟩
    cases y <;> first | rfl | (simp only [weakL, reduceCtorEq, false_and] at h; done)
theorem noRow_int (k : IntKind) (n : Int) : (AV.int k n).noRow = True := rfl
theorem noRow_bool (b : Bool) : (AV.bool b).noRow = True := rfl
theorem own_inj {t : Ty} {xs ys : List t.den} : (AV.own t xs = AV.own t ys) = (xs = ys) := by simp
theorem getD_lt {α : Type} (l : List α) (i : Nat) (z : α) (h : i < l.length) : l.getD i z = l[i] := by simp [List.getD, h]
theorem set_front {α : Type} (xs ys : List α) (i : Nat) (z : α) (h : i < ys.length) (hx : xs.length = ys.length) : (xs.set i (ys.getD i z)).take (i + 1) ++ ys.drop (i + 1) = xs.take i ++ ys.drop i := by
  rw [getD_lt _ _ _ h, List.take_set, List.drop_eq_getElem_cons h, List.take_succ_eq_append_getElem (by omega)]
  rw [List.set_append_right _ _ (by simp; omega)]
  simp [show i - min i xs.length = 0 by omega]
theorem drop_eq_iff {α : Type} (xs ys : List α) (i : Nat) (z : α) (h : i < xs.length) (hx : xs.length = ys.length) : xs.drop i = ys.drop i ↔ xs.getD i z = ys.getD i z ∧ xs.drop (i + 1) = ys.drop (i + 1) := by
  rw [getD_lt _ _ _ h, getD_lt _ _ _ (by omega), List.drop_eq_getElem_cons h, List.drop_eq_getElem_cons (by omega : i < ys.length), List.cons.injEq]
end Go.Proofs.Ytemlpimibhijoaa
