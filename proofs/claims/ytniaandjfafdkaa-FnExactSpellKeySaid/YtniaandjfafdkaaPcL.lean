/- The plain law of SpellKey: both searches find one pitch, for every key 0 to 127 and every place -20 to 20 (checked in the kernel). No condition. -/
import Derived.Test.YtniaandjfafdkaaPc
set_option linter.unusedSimpArgs false
set_option linter.unusedVariables false
namespace Go.Proofs.Ytniaandjfafdkaa
open Go.RowKit Sx
def spAgree (key near : Int) : Bool := (spBest key near).1 == (sqBest key near).1 && ((spBest key near).2.1 == (sqBest key near).2.1 && (spBest key near).2.2.1 == (sqBest key near).2.2.1)
def spAll (k n : Nat) : Bool := (List.range n).all fun i => (List.range 41).all fun j => spAgree ((k + i : Nat) : Int) ((j : Int) - 20)
theorem spAll_0 : spAll 0 8 = true := by decide +kernel
theorem spAll_1 : spAll 8 8 = true := by decide +kernel
theorem spAll_2 : spAll 16 8 = true := by decide +kernel
theorem spAll_3 : spAll 24 8 = true := by decide +kernel
theorem spAll_4 : spAll 32 8 = true := by decide +kernel
theorem spAll_5 : spAll 40 8 = true := by decide +kernel
theorem spAll_6 : spAll 48 8 = true := by decide +kernel
theorem spAll_7 : spAll 56 8 = true := by decide +kernel
theorem spAll_8 : spAll 64 8 = true := by decide +kernel
theorem spAll_9 : spAll 72 8 = true := by decide +kernel
theorem spAll_10 : spAll 80 8 = true := by decide +kernel
theorem spAll_11 : spAll 88 8 = true := by decide +kernel
theorem spAll_12 : spAll 96 8 = true := by decide +kernel
theorem spAll_13 : spAll 104 8 = true := by decide +kernel
theorem spAll_14 : spAll 112 8 = true := by decide +kernel
theorem spAll_15 : spAll 120 8 = true := by decide +kernel
theorem spAll_use {k n : Nat} (h : spAll k n = true) (key near : Int) (h0 : (k : Int) ≤ key) (h1 : key < ((k + n : Nat) : Int)) (h2 : -20 ≤ near) (h3 : near ≤ 20) : spAgree key near = true := by
  simp only [spAll, List.all_eq_true, List.mem_range] at h
  have h := h (key.toNat - k) (by omega) (near + 20).toNat (by omega)
  have e1 : ((k + (key.toNat - k) : Nat) : Int) = key := by omega
  have e2 : (((near + 20).toNat : Nat) : Int) - 20 = near := by omega
  rwa [e1, e2] at h
theorem spAgree_all (key near : Int) (h0 : 0 ≤ key) (h1 : key ≤ 127) (h2 : -20 ≤ near) (h3 : near ≤ 20) : spAgree key near = true := by
  by_cases c0 : key < 8
  · exact spAll_use spAll_0 key near (by omega) (by omega) h2 h3
  by_cases c1 : key < 16
  · exact spAll_use spAll_1 key near (by omega) (by omega) h2 h3
  by_cases c2 : key < 24
  · exact spAll_use spAll_2 key near (by omega) (by omega) h2 h3
  by_cases c3 : key < 32
  · exact spAll_use spAll_3 key near (by omega) (by omega) h2 h3
  by_cases c4 : key < 40
  · exact spAll_use spAll_4 key near (by omega) (by omega) h2 h3
  by_cases c5 : key < 48
  · exact spAll_use spAll_5 key near (by omega) (by omega) h2 h3
  by_cases c6 : key < 56
  · exact spAll_use spAll_6 key near (by omega) (by omega) h2 h3
  by_cases c7 : key < 64
  · exact spAll_use spAll_7 key near (by omega) (by omega) h2 h3
  by_cases c8 : key < 72
  · exact spAll_use spAll_8 key near (by omega) (by omega) h2 h3
  by_cases c9 : key < 80
  · exact spAll_use spAll_9 key near (by omega) (by omega) h2 h3
  by_cases c10 : key < 88
  · exact spAll_use spAll_10 key near (by omega) (by omega) h2 h3
  by_cases c11 : key < 96
  · exact spAll_use spAll_11 key near (by omega) (by omega) h2 h3
  by_cases c12 : key < 104
  · exact spAll_use spAll_12 key near (by omega) (by omega) h2 h3
  by_cases c13 : key < 112
  · exact spAll_use spAll_13 key near (by omega) (by omega) h2 h3
  by_cases c14 : key < 120
  · exact spAll_use spAll_14 key near (by omega) (by omega) h2 h3
  exact spAll_use spAll_15 key near (by omega) (by omega) h2 h3
end Go.Proofs.Ytniaandjfafdkaa
