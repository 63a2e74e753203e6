/- Contracts: frequencies of keys, of the program and the reference (under way). Conditions: as each says. -/
import Derived.Test.YtemlpimibhijoaaFh
set_option linter.unusedSimpArgs false
set_option linter.unusedVariables false
namespace Go.Proofs.Ytemlpimibhijoaa
open Go.RowKit Sx
set_option maxRecDepth 100000
set_option maxHeartbeats 1000000
theorem gcd_sign (n d : Int) (s : Bool) : Int.gcd (if s = true then -n else n) d = Int.gcd n d := by
  cases s <;> simp
theorem mkF_ok {n d : Int} (hd : d ≠ 0) (h : (mkF n d).2 = 0) : okF (mkF n d).1.1 (mkF n d).1.2 = true := by
  have hb := mkF_bd hd h
  rw [mkF_pos n d hd] at h hb ⊢
  split at h
  · simp at h
  · rename_i hc
    rw [if_neg hc] at hb ⊢
    simp only [okF, Bool.and_eq_true, inB_iff, beq_iff_eq]
    refine ⟨hb.1, hb.2, ?_⟩
    rw [gcd_sign]
    have hg : 0 < Nat.gcd n.natAbs d.natAbs := Nat.gcd_pos_of_pos_right _ (by omega)
    have := Nat.coprime_div_gcd_div_gcd hg
    show ((Nat.gcd ((n.natAbs : Int) / ((Nat.gcd n.natAbs d.natAbs : Nat) : Int)).natAbs ((d.natAbs : Int) / ((Nat.gcd n.natAbs d.natAbs : Nat) : Int)).natAbs : Nat) : Int) = 1
    rw [← Int.natCast_ediv, ← Int.natCast_ediv, Int.natAbs_natCast, Int.natAbs_natCast]
    exact_mod_cast this
theorem mkF_code (n d : Int) (hd : d ≠ 0) : (mkF n d).2 = 0 ∨ (mkF n d).2 = 2 ∧ (mkF n d).1 = (0, 0) := by
  rw [mkF_pos n d hd]
  split
  · exact .inr ⟨rfl, rfl⟩
  · exact .inl rfl
theorem mulF_ok {a b c d : Int} (h1 : okF a b = true) (h2 : okF c d = true) : ((mulF a b c d).2 = 0 ∧ okF (mulF a b c d).1.1 (mulF a b c d).1.2 = true) ∨ ((mulF a b c d).2 = 2 ∧ (mulF a b c d).1 = (0, 0)) := by
  have g := mul_bd2 (okF_bd h1).1 (okF_bd h2).1
  have e : mulF a b c d = mkF (a * c) (b * d) := by
    unfold mulF opF
    rw [h1, h2]; rfl
  rw [e]
  rcases mkF_code (a * c) (b * d) (by omega) with h | h
  · exact .inl ⟨h, mkF_ok (by omega) h⟩
  · exact .inr h
def freqGo (oa ob : Int) : Nat → Int × Int → (Int × Int) × Int
  | 0, e => (e, 0)
  | n + 1, e => if (mulF e.1 e.2 oa ob).2 = 0 then freqGo oa ob n (mulF e.1 e.2 oa ob).1 else (e, 2)
theorem freqGo_go (oa ob m i : Int) (e : Int × Int) (h0 : 0 ≤ i) (h : i < m) : freqGo oa ob (m - i).toNat e = if (mulF e.1 e.2 oa ob).2 = 0 then freqGo oa ob (m - (i + 1)).toNat (mulF e.1 e.2 oa ob).1 else (e, 2) := by
  rw [show (m - i).toNat = (m - (i + 1)).toNat + 1 by omega]; rfl
theorem freqGo_ok {oa ob : Int} (ho : okF oa ob = true) : ∀ (n : Nat) (e : Int × Int), okF e.1 e.2 = true → okF (freqGo oa ob n e).1.1 (freqGo oa ob n e).1.2 = true
  | 0, _, h => h
  | n + 1, e, h => by
    unfold freqGo
    split
    · rename_i hc
      rcases mulF_ok h ho with g | g
      · exact freqGo_ok ho n _ g.2
      · omega
    · exact h
def freqF (x : tTuning.den) (key : Int) : (Int × Int) × Int :=
  if (freqGo x.2.1.1 x.2.1.2 (key / ((x.2.2 : List tFrac.den).length : Int)).toNat x.1).2 = 0 then mulF (freqGo x.2.1.1 x.2.1.2 (key / ((x.2.2 : List tFrac.den).length : Int)).toNat x.1).1.1 (freqGo x.2.1.1 x.2.1.2 (key / ((x.2.2 : List tFrac.den).length : Int)).toNat x.1).1.2 (atF x.2.2 (key % ((x.2.2 : List tFrac.den).length : Int)).toNat).1 (atF x.2.2 (key % ((x.2.2 : List tFrac.den).length : Int)).toNat).2 else ((0, 0), 2)
theorem tune_bd {x : tTuning.den} (h : tuneF x = true) : okF x.1.1 x.1.2 = true ∧ okF x.2.1.1 x.2.1.2 = true ∧ 1 ≤ (x.2.2 : List tFrac.den).length ∧ (x.2.2 : List tFrac.den).length ≤ 24 := by
  simp only [tuneF, Bool.and_eq_true, decide_eq_true_eq] at h
  exact ⟨h.1, h.2.2.1, h.2.2.2.2.1⟩
theorem div_key (key n : Int) (h0 : 0 ≤ key ∧ key ≤ 127) (h1 : 1 ≤ n) : (0 ≤ key / n ∧ key / n ≤ 127) ∧ (0 ≤ key % n ∧ key % n < n) :=
  ⟨⟨(div_bd key n h0.1 h1).1, by have := (div_bd key n h0.1 h1).2; omega⟩, Int.emod_nonneg _ (by omega), Int.emod_lt_of_pos _ (by omega)⟩
theorem freqGo_dn (oa ob k : Int) (e : Int × Int) (h : 0 < k) : freqGo oa ob k.toNat e = if (mulF e.1 e.2 oa ob).2 = 0 then freqGo oa ob (k - 1).toNat (mulF e.1 e.2 oa ob).1 else (e, 2) := by
  rw [show k.toNat = (k - 1).toNat + 1 by omega]; rfl

def C_Fi : FuncId → Option Ct := C_Fh
theorem C_Fi_ok : COk Try.prog C_Fi := C_Fh_ok
end Go.Proofs.Ytemlpimibhijoaa
