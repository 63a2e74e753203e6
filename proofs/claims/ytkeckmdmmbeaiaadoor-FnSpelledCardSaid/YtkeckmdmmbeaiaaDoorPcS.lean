/- The plain law of spelled keys: each key from 12 to 115, at each place from -9 to 13, has a spelling near by (checked in the kernel). No condition. -/
import Derived.Test.YtkeckmdmmbeaiaaDoorPc
set_option linter.unusedSimpArgs false
set_option linter.unusedVariables false
namespace Go.Proofs.YtkeckmdmmbeaiaaDoor
open Go.RowKit Sx
def spGood (key near : Int) : Bool :=
  okP (spBest key near).1 (spBest key near).2.1 (spBest key near).2.2.1 && (keyF (spBest key near).1 (spBest key near).2.1 (spBest key near).2.2.1 == key && (decide (fif7 (spBest key near).1 + 7 * (spBest key near).2.1 - near ≤ 6) && decide (-6 ≤ fif7 (spBest key near).1 + 7 * (spBest key near).2.1 - near)))
def spgAll (k n : Nat) : Bool := (List.range n).all fun i => (List.range 23).all fun j => spGood ((k + i : Nat) : Int) ((j : Int) - 9)
theorem spgAll_0 : spgAll 12 8 = true := by decide +kernel
theorem spgAll_1 : spgAll 20 8 = true := by decide +kernel
theorem spgAll_2 : spgAll 28 8 = true := by decide +kernel
theorem spgAll_3 : spgAll 36 8 = true := by decide +kernel
theorem spgAll_4 : spgAll 44 8 = true := by decide +kernel
theorem spgAll_5 : spgAll 52 8 = true := by decide +kernel
theorem spgAll_6 : spgAll 60 8 = true := by decide +kernel
theorem spgAll_7 : spgAll 68 8 = true := by decide +kernel
theorem spgAll_8 : spgAll 76 8 = true := by decide +kernel
theorem spgAll_9 : spgAll 84 8 = true := by decide +kernel
theorem spgAll_10 : spgAll 92 8 = true := by decide +kernel
theorem spgAll_11 : spgAll 100 8 = true := by decide +kernel
theorem spgAll_12 : spgAll 108 8 = true := by decide +kernel
theorem spgAll_use {k n : Nat} (h : spgAll k n = true) (key near : Int) (h0 : (k : Int) ≤ key) (h1 : key < ((k + n : Nat) : Int)) (h2 : -9 ≤ near) (h3 : near ≤ 13) : spGood key near = true := by
  simp only [spgAll, List.all_eq_true, List.mem_range] at h
  have h := h (key.toNat - k) (by omega) (near + 9).toNat (by omega)
  have e1 : ((k + (key.toNat - k) : Nat) : Int) = key := by omega
  have e2 : (((near + 9).toNat : Nat) : Int) - 9 = near := by omega
  rwa [e1, e2] at h
theorem spGood_all (key near : Int) (h0 : 12 ≤ key) (h1 : key ≤ 115) (h2 : -9 ≤ near) (h3 : near ≤ 13) : spGood key near = true := by
  by_cases c0 : key < 20
  · exact spgAll_use spgAll_0 key near (by omega) (by omega) h2 h3
  by_cases c1 : key < 28
  · exact spgAll_use spgAll_1 key near (by omega) (by omega) h2 h3
  by_cases c2 : key < 36
  · exact spgAll_use spgAll_2 key near (by omega) (by omega) h2 h3
  by_cases c3 : key < 44
  · exact spgAll_use spgAll_3 key near (by omega) (by omega) h2 h3
  by_cases c4 : key < 52
  · exact spgAll_use spgAll_4 key near (by omega) (by omega) h2 h3
  by_cases c5 : key < 60
  · exact spgAll_use spgAll_5 key near (by omega) (by omega) h2 h3
  by_cases c6 : key < 68
  · exact spgAll_use spgAll_6 key near (by omega) (by omega) h2 h3
  by_cases c7 : key < 76
  · exact spgAll_use spgAll_7 key near (by omega) (by omega) h2 h3
  by_cases c8 : key < 84
  · exact spgAll_use spgAll_8 key near (by omega) (by omega) h2 h3
  by_cases c9 : key < 92
  · exact spgAll_use spgAll_9 key near (by omega) (by omega) h2 h3
  by_cases c10 : key < 100
  · exact spgAll_use spgAll_10 key near (by omega) (by omega) h2 h3
  by_cases c11 : key < 108
  · exact spgAll_use spgAll_11 key near (by omega) (by omega) h2 h3
  exact spgAll_use spgAll_12 key near (by omega) (by omega) h2 h3
end Go.Proofs.YtkeckmdmmbeaiaaDoor
