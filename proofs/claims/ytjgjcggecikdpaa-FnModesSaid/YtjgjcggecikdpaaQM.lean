/- Plain laws: a tuning's ratios, on over all octaves, us rational numbers; modes of modes, steps of modes. Conditions: us each says. -/
import Derived.Test.YtjgjcggecikdpaaRdL
import Derived.Test.YtjgjcggecikdpaaFm
set_option linter.unusedSimpArgs false
set_option linter.unusedVariables false
namespace Go.Proofs.Ytjgjcggecikdpaa
open Go.RowKit Sx
theorem rat_iff (rs : List tFrac.den) (a b : Int) : ∀ n i : Nat, i + n = rs.length → (ratT rs a b n i = true ↔ ∀ j, i ≤ j → j < rs.length → okF (atF rs j).1 (atF rs j).2 = true ∧ cmpF (atF rs j).1 (atF rs j).2 a b < 0 ∧ (j = 0 ∨ cmpF (atF rs (j - 1)).1 (atF rs (j - 1)).2 (atF rs j).1 (atF rs j).2 < 0))
  | 0, i, h => by simp only [ratT, true_iff]; intro j h1 h2; omega
  | n + 1, i, h => by
    simp only [ratT, Bool.and_eq_true, decide_eq_true_eq]
    rw [rat_iff rs a b n (i + 1) (by omega)]
    constructor
    · rintro ⟨h1, h2, h3, h4⟩ j g1 g2
      rcases Nat.lt_or_ge i j with g | g
      · exact h4 j g g2
      · have : j = i := by omega
        subst this
        exact ⟨h1, h2, h3⟩
    · intro g
      obtain ⟨h1, h2, h3⟩ := g i (Nat.le_refl _) (by omega)
      exact ⟨h1, h2, h3, fun j g1 g2 => g j (by omega) g2⟩
/-- The ratios of a valid tuning. -/
structure Tun (rs : List tFrac.den) (o : Fr) : Prop where
  oct : OctF o
  n1 : 1 ≤ rs.length
  n24 : rs.length ≤ 24
  first : atF rs 0 = (1, 1)
  ok : ∀ i, i < rs.length → okF (atF rs i).1 (atF rs i).2 = true
  lt : ∀ i, i < rs.length → qF (atF rs i) < qF o
  inc : ∀ i, i + 1 < rs.length → qF (atF rs i) < qF (atF rs (i + 1))
theorem tune_iff {x : tTuning.den} : tuneF x = true ↔ (okF x.1.1 x.1.2 = true ∧ (0 : Int) < x.1.1) ∧ Tun x.2.2 x.2.1 := by
  obtain ⟨b, o, rs⟩ := x
  change List tFrac.den at rs
  have hr := rat_iff rs o.1 o.2 rs.length 0 (by omega)
  simp only [tuneF, Bool.and_eq_true, decide_eq_true_eq, hr]
  constructor
  · rintro ⟨h1, h2, h3, h4, ⟨h5, h6⟩, ⟨h7, h8⟩, h9⟩
    refine ⟨⟨h1, h2⟩, ⟨h3, h4⟩, h5, h6, Prod.ext h7 h8, fun i hi => (h9 i (by omega) hi).1, fun i hi => ?_, fun i hi => ?_⟩
    · have g := h9 i (by omega) hi
      exact (qF_le (okF_den g.1).2 (okF_den h3).2).1 g.2.1
    · have g := h9 i (by omega) (by omega)
      have g' := h9 (i + 1) (by omega) hi
      exact (qF_le (okF_den g.1).2 (okF_den g'.1).2).1 (g'.2.2.resolve_left (by omega))
  · rintro ⟨⟨h1, h2⟩, h3⟩
    have e := h3.first
    refine ⟨h1, h2, h3.oct.ok, h3.oct.big, ⟨h3.n1, h3.n24⟩, by rw [e]; exact ⟨rfl, rfl⟩, fun j _ hj => ?_⟩
    have k := h3.ok j hj
    refine ⟨k, (qF_le (okF_den k).2 (okF_den h3.oct.ok).2).2 (h3.lt j hj), ?_⟩
    rcases Nat.eq_zero_or_pos j with h | h
    · exact .inl h
    · have k' := h3.ok (j - 1) (by omega)
      have g := h3.inc (j - 1) (by omega)
      rw [Nat.sub_add_cancel h] at g
      exact .inr ((qF_le (okF_den k').2 (okF_den k).2).2 g)
def pw (q : Rat) : Nat → Rat
  | 0 => 1
  | n + 1 => pw q n * q
theorem pw_pos {q : Rat} (h : 0 < q) : ∀ n, 0 < pw q n
  | 0 => by show (0 : Rat) < 1; decide
  | n + 1 => Rat.mul_pos (pw_pos h n) h
theorem pw_add (q : Rat) (a : Nat) : ∀ b, pw q (a + b) = pw q a * pw q b
  | 0 => by show pw q a = pw q a * 1; grind
  | b + 1 => by
    have := pw_add q a b
    show pw q (a + b) * q = pw q a * (pw q b * q)
    rw [this]; grind
/-- The ratio of the m-th key above the base. -/
def Rq (rs : List tFrac.den) (o : Fr) (m : Nat) : Rat := qF (atF rs (m % rs.length)) * pw (qF o) (m / rs.length)
section
variable {rs : List tFrac.den} {o : Fr}
theorem Rq_at (k q : Nat) (hk : k < rs.length) : Rq rs o (k + rs.length * q) = qF (atF rs k) * pw (qF o) q := by
  unfold Rq
  rw [Nat.add_mul_mod_self_left, Nat.mod_eq_of_lt hk, Nat.add_mul_div_left _ _ (by omega), Nat.div_eq_of_lt hk, Nat.zero_add]
theorem Rq_lo (k : Nat) (hk : k < rs.length) : Rq rs o k = qF (atF rs k) := by
  have := Rq_at (rs := rs) (o := o) k 0 hk
  rw [Nat.mul_zero, Nat.add_zero] at this
  rw [this]
  show qF (atF rs k) * 1 = _
  grind
theorem Rq_add (n1 : 1 ≤ rs.length) (m q : Nat) : Rq rs o (m + rs.length * q) = Rq rs o m * pw (qF o) q := by
  unfold Rq
  rw [Nat.add_mul_mod_self_left, Nat.add_mul_div_left _ _ (by omega), pw_add]
  grind
theorem split_at (n1 : 1 ≤ rs.length) (m : Nat) : ∃ k q, k < rs.length ∧ m = k + rs.length * q := ⟨m % rs.length, m / rs.length, Nat.mod_lt _ n1, by have := Nat.div_add_mod m rs.length; omega⟩
theorem Rq_next (n1 : 1 ≤ rs.length) (m : Nat) : Rq rs o (m + rs.length) = Rq rs o m * qF o := by
  have := Rq_add (o := o) n1 m 1
  rw [Nat.mul_one] at this
  rw [this]
  show _ * (1 * qF o) = _
  grind
theorem Rq_lt (h : Tun rs o) (m : Nat) : Rq rs o m < Rq rs o (m + 1) := by
  obtain ⟨k, q, hk, rfl⟩ := split_at h.n1 m
  have hp := pw_pos (show 0 < qF o by have := h.oct.q; grind) q
  rw [Rq_at k q hk]
  rcases Nat.lt_or_ge (k + 1) rs.length with g | g
  · rw [show k + rs.length * q + 1 = (k + 1) + rs.length * q by omega, Rq_at (k + 1) q g]
    exact Rat.mul_lt_mul_of_pos_right (h.inc k g) hp
  · have e : k + rs.length * q + 1 = 0 + rs.length * (q + 1) := by rw [Nat.mul_add]; omega
    rw [e, Rq_at 0 (q + 1) h.n1, h.first, qF_one]
    show _ < 1 * (pw (qF o) q * qF o)
    have := Rat.mul_lt_mul_of_pos_right (h.lt k hk) hp
    grind
theorem Rq_mono (h : Tun rs o) (m : Nat) : ∀ d, 0 < d → Rq rs o m < Rq rs o (m + d)
  | 0, h0 => absurd h0 (by omega)
  | d + 1, _ => by
    have g := Rq_lt h (m + d)
    rcases Nat.eq_zero_or_pos d with hd | hd
    · subst hd; exact g
    · have := Rq_mono h m d hd
      show Rq rs o m < Rq rs o (m + d + 1)
      grind
theorem Rq_pos (h : Tun rs o) (m : Nat) : 0 < Rq rs o m := by
  have h0 : Rq rs o 0 = 1 := by rw [Rq_lo 0 h.n1, h.first, qF_one]
  rcases Nat.eq_zero_or_pos m with hm | hm
  · subst hm; rw [h0]; decide
  · have := Rq_mono h 0 m hm
    rw [Nat.zero_add, h0] at this
    grind
end
theorem tun_pos {rs : List tFrac.den} {o : Fr} (h : Tun rs o) (i : Nat) (hi : i < rs.length) : PosF (atF rs i) := by
  have := Rq_pos h i
  rw [Rq_lo i hi] at this
  exact ⟨h.ok i hi, (qF_pos (h.ok i hi)).1 this⟩
/-! ### one mode -/
theorem modeAt_q {b o : Fr} {rs : List tFrac.den} (h : Tun rs o) {d i : Nat} (hd : d < rs.length) (hi : i < rs.length) (hc : (modeAt (b, o, rs) d i).2 = 0) :
    okF (modeAt (b, o, rs) d i).1.1 (modeAt (b, o, rs) d i).1.2 = true ∧ qF (modeAt (b, o, rs) d i).1 * Rq rs o d = Rq rs o (d + i) := by
  have hD := tun_pos h d hd
  have hq := hD.q
  rw [Rq_lo d hd]
  unfold modeAt at *
  simp only at hc ⊢
  split at hc
  · rename_i h1
    have e : (d + i) % rs.length = d + i - rs.length := by
      rw [Nat.mod_eq_sub_mod h1, Nat.mod_eq_of_lt (by omega)]
    rw [if_pos h1]
    split at hc
    · rename_i h2
      rw [if_pos h2]
      have hA := tun_pos h ((d + i) % rs.length) (by omega)
      have hm := (mulF_ok hA.ok h.oct.ok).resolve_right (by omega)
      obtain ⟨_, g2, g3⟩ := divF_q hm.2 hD.ok hc
      refine ⟨g3, ?_⟩
      rw [g2, mulF_q hA.ok h.oct.ok h2]
      have er : Rq rs o (d + i) = qF (atF rs ((d + i) % rs.length)) * qF o := by
        rw [e, show d + i = (d + i - rs.length) + rs.length by omega, Rq_next h.n1, Rq_lo _ (by omega)]
        congr 3
        omega
      rw [er]
      have h0 : qF (atF rs d) ≠ 0 := by grind
      grind
    · simp at hc
  · rename_i h1
    have e : (d + i) % rs.length = d + i := Nat.mod_eq_of_lt (by omega)
    rw [if_neg h1]
    rw [e] at hc ⊢
    have hA := tun_pos h (d + i) (by omega)
    obtain ⟨_, g2, g3⟩ := divF_q hA.ok hD.ok hc
    refine ⟨g3, ?_⟩
    rw [g2, Rq_lo _ (by omega)]
    have h0 : qF (atF rs d) ≠ 0 := by grind
    grind
theorem modeGo_all (x : tTuning.den) (d : Nat) : ∀ (n i : Nat), (modeGo x d n i).2 = 0 → (modeGo x d n i).1.length = n ∧ ∀ j, j < n → (modeAt x d (i + j)).2 = 0 ∧ atF (modeGo x d n i).1 j = (modeAt x d (i + j)).1
  | 0, _, _ => ⟨rfl, fun j hj => absurd hj (by omega)⟩
  | n + 1, i, h => by
    unfold modeGo at *
    split at h
    · rename_i h1
      rw [if_pos h1]
      obtain ⟨g1, g2⟩ := modeGo_all x d n (i + 1) h
      refine ⟨by simp [g1], fun j hj => ?_⟩
      rcases Nat.eq_zero_or_pos j with h0 | h0
      · subst h0; exact ⟨h1, rfl⟩
      · obtain ⟨k, rfl⟩ : ∃ k, j = k + 1 := ⟨j - 1, by omega⟩
        have := g2 k (by omega)
        rw [show i + 1 + k = i + (k + 1) by omega] at this
        exact ⟨this.1, this.2⟩
    · simp at h
theorem modeGo_code (x : tTuning.den) (d : Nat) : ∀ (n i : Nat), (modeGo x d n i).2 = 0 ∨ (modeGo x d n i).2 = 2
  | 0, _ => .inl rfl
  | n + 1, i => by
    unfold modeGo
    split
    · exact modeGo_code x d n (i + 1)
    · exact .inr rfl
/-- A mode: where it exists. -/
theorem modeF_spec {b o : Fr} {rs : List tFrac.den} (ht : tuneF (b, o, rs) = true) {d : Int} (hd : 0 ≤ d ∧ d ≤ (rs.length : Int) - 1) :
    ((modeF (b, o, rs) d).2 = 0 ∨ (modeF (b, o, rs) d).2 = 2) ∧
    ((modeF (b, o, rs) d).2 = 0 → ∃ us : List tFrac.den, (modeF (b, o, rs) d).1 = (b, o, us) ∧ us.length = rs.length ∧ tuneF (b, o, us) = true ∧ ∀ j, j < rs.length → qF (atF us j) * Rq rs o d.toNat = Rq rs o (d.toNat + j)) := by
  obtain ⟨⟨hb1, hb2⟩, h⟩ := tune_iff.1 ht
  change Tun rs o at h
  have e : modeF (b, o, rs) d = if (modeGo (b, o, rs) d.toNat rs.length 0).2 = 0 then ((b, o, (modeGo (b, o, rs) d.toNat rs.length 0).1), 0) else (((0, 0), (0, 0), []), 2) := by
    unfold modeF
    rw [if_pos ht, if_pos hd]
  rw [e]
  rcases modeGo_code (b, o, rs) d.toNat rs.length 0 with hc | hc
  · rw [if_pos hc]
    refine ⟨.inl rfl, fun _ => ⟨_, rfl, ?_⟩⟩
    obtain ⟨g1, g2⟩ := modeGo_all _ _ _ _ hc
    generalize (modeGo (b, o, rs) d.toNat rs.length 0).1 = us at *
    have hq : ∀ j, j < rs.length → okF (atF us j).1 (atF us j).2 = true ∧ qF (atF us j) * Rq rs o d.toNat = Rq rs o (d.toNat + j) := fun j hj => by
      have := g2 j hj
      rw [Nat.zero_add] at this
      rw [this.2]
      exact modeAt_q h (by omega) hj this.1
    refine ⟨g1, ?_, fun j hj => (hq j hj).2⟩
    have hp := Rq_pos h d.toNat
    refine tune_iff.2 ⟨⟨hb1, hb2⟩, h.oct, by show 1 ≤ us.length; have := h.n1; omega, by show us.length ≤ 24; have := h.n24; omega, ?_, fun i hi => (hq i (by change i < us.length at hi; omega)).1, fun i hi => ?_, fun i hi => ?_⟩
    · have g := hq 0 h.n1
      refine qF_inj g.1 (by decide) ?_
      rw [Nat.add_zero] at g
      rw [qF_one]
      have h0 : Rq rs o d.toNat ≠ 0 := by grind
      have := g.2
      grind
    · change i < us.length at hi
      have g := (hq i (by omega)).2
      have g2 := Rq_mono h (d.toNat + i) (rs.length - i) (by omega)
      rw [show d.toNat + i + (rs.length - i) = d.toNat + rs.length by omega, Rq_next h.n1, ← g] at g2
      have g3 : Rq rs o d.toNat * qF o = qF o * Rq rs o d.toNat := by grind
      rw [g3] at g2
      exact Rat.lt_of_mul_lt_mul_right g2 (Rat.le_of_lt hp)
    · change i + 1 < us.length at hi
      have g := (hq i (by omega)).2
      have g' := (hq (i + 1) (by omega)).2
      have g2 := Rq_lt h (d.toNat + i)
      rw [show d.toNat + i + 1 = d.toNat + (i + 1) by omega, ← g, ← g'] at g2
      exact Rat.lt_of_mul_lt_mul_right g2 (Rat.le_of_lt hp)
  · rw [if_neg (by omega)]
    exact ⟨.inr rfl, fun h => absurd h (by simp)⟩
/-- The first mode is the tuning's own: it exists. -/
theorem modeF_zero {b o : Fr} {rs : List tFrac.den} (ht : tuneF (b, o, rs) = true) : (modeF (b, o, rs) 0).2 = 0 := by
  obtain ⟨_, h⟩ := tune_iff.1 ht
  change Tun rs o at h
  have n1 := h.n1
  have hd : ∀ n i, i + n = rs.length → (modeGo (b, o, rs) 0 n i).2 = 0 := by
    intro n
    induction n with
    | zero => intro i _; rfl
    | succ n ih =>
      intro i hi
      have hA := h.ok i (by omega)
      have hc : (modeAt (b, o, rs) 0 i).2 = 0 := by
        unfold modeAt
        simp only [Nat.zero_add]
        rw [if_neg (by omega), h.first]
        have e : (i % rs.length) = i := Nat.mod_eq_of_lt (by omega)
        rw [e]
        unfold divF
        rw [if_pos ⟨hA, by decide⟩, if_neg (by decide)]
        have hs := mkF_self hA
        simp only [Int.mul_one]
        rw [hs]
      unfold modeGo
      rw [if_pos hc]
      exact ih (i + 1) (by omega)
  have e : modeF (b, o, rs) 0 = if (modeGo (b, o, rs) 0 rs.length 0).2 = 0 then ((b, o, (modeGo (b, o, rs) 0 rs.length 0).1), 0) else (((0, 0), (0, 0), []), 2) := by
    unfold modeF
    rw [if_pos ht, if_pos (by show 0 ≤ 0 ∧ 0 ≤ (rs.length : Int) - 1; omega)]
    rfl
  rw [e, if_pos (hd rs.length 0 (by omega))]
/-- The keys of a mode are those of the tuning. -/
theorem mode_Rq {rs us : List tFrac.den} {o : Fr} (h : Tun rs o) (hl : us.length = rs.length) {i : Nat} (hq : ∀ j, j < rs.length → qF (atF us j) * Rq rs o i = Rq rs o (i + j)) (m : Nat) : Rq us o m * Rq rs o i = Rq rs o (i + m) := by
  obtain ⟨k, q, hk, rfl⟩ := split_at (rs := us) (by have := h.n1; omega) m
  rw [Rq_at k q hk]
  have := hq k (by omega)
  rw [hl, show i + (k + rs.length * q) = (i + k) + rs.length * q by omega, Rq_add h.n1, ← this]
  grind
theorem list_at {us bs : List tFrac.den} (hl : us.length = bs.length) (h : ∀ j, j < us.length → atF us j = atF bs j) : us = bs := by
  refine List.ext_getElem hl fun i h1 h2 => ?_
  have := h i h1
  unfold atF at this
  rwa [getD_lt _ _ _ h1, getD_lt _ _ _ h2] at this
/-- A mode of a mode is a mode. -/
theorem mode_mode {b o : Fr} {rs : List tFrac.den} (ht : tuneF (b, o, rs) = true) {i k : Int} (hi : 0 ≤ i ∧ i ≤ (rs.length : Int) - 1) (hk : 0 ≤ k ∧ k ≤ (rs.length : Int) - 1)
    (h1 : (modeF (b, o, rs) i).2 = 0) (h2 : (modeF (modeF (b, o, rs) i).1 k).2 = 0) (h3 : (modeF (b, o, rs) ((i + k) % (rs.length : Int))).2 = 0) :
    (modeF (modeF (b, o, rs) i).1 k).1 = (modeF (b, o, rs) ((i + k) % (rs.length : Int))).1 := by
  obtain ⟨_, h⟩ := tune_iff.1 ht
  change Tun rs o at h
  have n1 := h.n1
  obtain ⟨us, ea, la, ta, qa⟩ := (modeF_spec ht hi).2 h1
  rw [ea] at h2 ⊢
  obtain ⟨bs, eb, lb, tb, qb⟩ := (modeF_spec ta (d := k) (by omega)).2 h2
  have hp0 := Int.emod_nonneg (i + k) (b := (rs.length : Int)) (by omega)
  have hp1 := Int.emod_lt_of_pos (i + k) (b := (rs.length : Int)) (by omega)
  obtain ⟨cs, ec, lc, tc, qc⟩ := (modeF_spec ht (d := (i + k) % (rs.length : Int)) ⟨hp0, by omega⟩).2 h3
  rw [eb, ec]
  obtain ⟨_, hA⟩ := tune_iff.1 ta
  change Tun us o at hA
  obtain ⟨_, hB⟩ := tune_iff.1 tb
  change Tun bs o at hB
  obtain ⟨_, hC⟩ := tune_iff.1 tc
  change Tun cs o at hC
  have hp : ((i + k) % (rs.length : Int)).toNat = (i.toNat + k.toNat) % rs.length := by
    rw [show i + k = ((i.toNat + k.toNat : Nat) : Int) by omega, ← Int.natCast_emod, Int.toNat_natCast]
  have hdm := Nat.div_add_mod (i.toNat + k.toNat) rs.length
  rw [hp] at qc
  generalize (i.toNat + k.toNat) % rs.length = p at *
  generalize (i.toNat + k.toNat) / rs.length = q at *
  have hbc : bs = cs := list_at (by omega) fun j hj => by
    refine qF_inj (hB.ok j hj) (hC.ok j (by omega)) ?_
    have e1 := qb j (by omega)
    have e2 := qc j (by omega)
    have e3 := mode_Rq h la qa k.toNat
    have e4 := mode_Rq h la qa (k.toNat + j)
    have e5 : Rq rs o (i.toNat + k.toNat) = Rq rs o p * pw (qF o) q := by rw [← hdm, Nat.add_comm, Rq_add n1]
    have e6 : Rq rs o (i.toNat + (k.toNat + j)) = Rq rs o (p + j) * pw (qF o) q := by
      rw [show i.toNat + (k.toNat + j) = (p + j) + rs.length * q by omega, Rq_add n1]
    have p1 := Rq_pos h i.toNat
    have p2 := Rq_pos h p
    have p3 := pw_pos (show 0 < qF o by have := h.oct.q; grind) q
    have p4 := Rq_pos hA k.toNat
    generalize Rq rs o i.toNat = u at *
    generalize Rq rs o p = v at *
    generalize pw (qF o) q = w at *
    generalize Rq us o k.toNat = z at *
    rw [e6, ← e2] at e4
    rw [← e1] at e4
    rw [e5] at e3
    have n2 : u ≠ 0 := by grind
    have n3 : v ≠ 0 := by grind
    have n4 : w ≠ 0 := by grind
    have n5 : z ≠ 0 := by grind
    have e7 : qF (atF bs j) * (z * u) = qF (atF cs j) * (v * w) := by grind
    rw [e3] at e7
    have n6 : v * w ≠ 0 := fun e => by rcases Rat.mul_eq_zero.1 e with e | e <;> contradiction
    grind
  rw [hbc]
/-! ### steps -/
theorem stepsGo_all : ∀ (l : List Fr) (b : Fr), (stepsGo b l).2 = 0 → (stepsGo b l).1.length = l.length ∧ ∀ j, j < l.length → (divF (atF l j).1 (atF l j).2 (if j = 0 then b else atF l (j - 1)).1 (if j = 0 then b else atF l (j - 1)).2).2 = 0 ∧ atF (stepsGo b l).1 j = (divF (atF l j).1 (atF l j).2 (if j = 0 then b else atF l (j - 1)).1 (if j = 0 then b else atF l (j - 1)).2).1
  | [], _, _ => ⟨rfl, fun j hj => absurd hj (by simp)⟩
  | r :: l, b, h => by
    unfold stepsGo at *
    split at h
    · rename_i h1
      rw [if_pos h1]
      obtain ⟨g1, g2⟩ := stepsGo_all l r h
      refine ⟨by simp [g1], fun j hj => ?_⟩
      rcases Nat.eq_zero_or_pos j with h0 | h0
      · subst h0; exact ⟨h1, rfl⟩
      · obtain ⟨k, rfl⟩ : ∃ k, j = k + 1 := ⟨j - 1, by omega⟩
        have := g2 k (by simp at hj; omega)
        have e : (if k = 0 then r else atF l (k - 1)) = (if k + 1 = 0 then b else atF (r :: l) (k + 1 - 1)) := by
          rw [if_neg (by omega : ¬ k + 1 = 0)]
          rcases Nat.eq_zero_or_pos k with hk | hk
          · subst hk; rfl
          · rw [if_neg (by omega)]
            obtain ⟨m, rfl⟩ : ∃ m, k = m + 1 := ⟨k - 1, by omega⟩
            rfl
        rw [e] at this
        exact this
    · simp at h
theorem stepsGo_code : ∀ (l : List Fr) (b : Fr), (stepsGo b l).2 = 0 ∨ (stepsGo b l).2 = 2
  | [], _ => .inl rfl
  | r :: l, b => by
    unfold stepsGo
    split
    · exact stepsGo_code l r
    · exact .inr rfl
theorem stepsF_spec {b o : Fr} {rs : List tFrac.den} (ht : tuneF (b, o, rs) = true) :
    ((stepsF (b, o, rs)).2 = 0 ∨ (stepsF (b, o, rs)).2 = 2) ∧
    ((stepsF (b, o, rs)).2 = 0 → (stepsF (b, o, rs)).1.length = rs.length ∧ ∀ j, j < rs.length → okF (atF (stepsF (b, o, rs)).1 j).1 (atF (stepsF (b, o, rs)).1 j).2 = true ∧ qF (atF (stepsF (b, o, rs)).1 j) * Rq rs o j = Rq rs o (j + 1)) := by
  obtain ⟨_, h⟩ := tune_iff.1 ht
  change Tun rs o at h
  have n1 := h.n1
  have e : stepsF (b, o, rs) = if (stepsGo (atF rs 0) (rs.drop 1 ++ [o])).2 = 0 then ((stepsGo (atF rs 0) (rs.drop 1 ++ [o])).1, 0) else ([], 2) := by
    unfold stepsF
    rw [if_pos ht]
  rw [e]
  rcases stepsGo_code (rs.drop 1 ++ [o]) (atF rs 0) with hc | hc
  · rw [if_pos hc]
    refine ⟨.inl rfl, fun _ => ?_⟩
    obtain ⟨g1, g2⟩ := stepsGo_all _ _ hc
    have hl : (rs.drop 1 ++ [o]).length = rs.length := by simp; omega
    refine ⟨by rw [g1, hl], fun j hj => ?_⟩
    obtain ⟨k1, k2⟩ := g2 j (by omega)
    have e1 : (if j = 0 then atF rs 0 else atF (rs.drop 1 ++ [o]) (j - 1)) = atF rs j := by
      split
      · rename_i h0; subst h0; rfl
      · unfold atF
        rw [getD_lt _ _ _ (by omega), getD_lt _ _ _ hj, List.getElem_append_left (by simp; omega), List.getElem_drop]
        congr 1
        omega
    have e2 : qF (atF (rs.drop 1 ++ [o]) j) = Rq rs o (j + 1) ∧ okF (atF (rs.drop 1 ++ [o]) j).1 (atF (rs.drop 1 ++ [o]) j).2 = true := by
      rcases Nat.lt_or_ge (j + 1) rs.length with g | g
      · have : atF (rs.drop 1 ++ [o]) j = atF rs (j + 1) := by
          unfold atF
          rw [getD_lt _ _ _ (by omega), getD_lt _ _ _ g, List.getElem_append_left (by simp; omega), List.getElem_drop]
          congr 1
          omega
        rw [this, Rq_lo _ g]
        exact ⟨rfl, h.ok _ g⟩
      · have : atF (rs.drop 1 ++ [o]) j = o := by
          unfold atF
          rw [getD_lt _ _ _ (by omega), List.getElem_append_right (by simp; omega)]
          simp
        rw [this, show j + 1 = 0 + rs.length by omega, Rq_next n1, Rq_lo 0 n1, h.first, qF_one]
        exact ⟨by grind, h.oct.ok⟩
    rw [e1] at k1 k2
    obtain ⟨_, g3, g4⟩ := divF_q e2.2 (h.ok j hj) k1
    rw [k2]
    refine ⟨g4, ?_⟩
    rw [g3, e2.1, Rq_lo j hj]
    have hp := (tun_pos h j hj).q
    have h0 : qF (atF rs j) ≠ 0 := by grind
    grind
  · rw [if_neg (by omega)]
    exact ⟨.inr rfl, fun h => absurd h (by simp)⟩
/-- The steps of a mode are those of the tuning, turned. -/
theorem steps_mode {b o : Fr} {rs : List tFrac.den} (ht : tuneF (b, o, rs) = true) {i : Int} (hi : 0 ≤ i ∧ i ≤ (rs.length : Int) - 1) (h1 : (modeF (b, o, rs) i).2 = 0)
    (h2 : (stepsF (b, o, rs)).2 = 0) (h3 : (stepsF (modeF (b, o, rs) i).1).2 = 0) :
    (stepsF (b, o, rs)).1.length = rs.length ∧ (stepsF (modeF (b, o, rs) i).1).1.length = rs.length ∧
    ∀ j, j < rs.length → atF (stepsF (modeF (b, o, rs) i).1).1 j = atF (stepsF (b, o, rs)).1 ((i.toNat + j) % rs.length) := by
  obtain ⟨_, h⟩ := tune_iff.1 ht
  change Tun rs o at h
  have n1 := h.n1
  obtain ⟨us, ea, la, ta, qa⟩ := (modeF_spec ht hi).2 h1
  rw [ea] at h3 ⊢
  obtain ⟨x1, x2⟩ := (stepsF_spec ht).2 h2
  obtain ⟨y1, y2⟩ := (stepsF_spec ta).2 h3
  refine ⟨x1, by omega, fun j hj => ?_⟩
  have hp : (i.toNat + j) % rs.length < rs.length := Nat.mod_lt _ n1
  have hdm := Nat.div_add_mod (i.toNat + j) rs.length
  generalize (i.toNat + j) % rs.length = p at *
  generalize (i.toNat + j) / rs.length = q at *
  obtain ⟨a1, a2⟩ := y2 j (by omega)
  obtain ⟨b1, b2⟩ := x2 p hp
  refine qF_inj a1 b1 ?_
  have e3 := mode_Rq h la qa j
  have e4 := mode_Rq h la qa (j + 1)
  have e5 : Rq rs o (i.toNat + j) = Rq rs o p * pw (qF o) q := by rw [← hdm, Nat.add_comm, Rq_add n1]
  have e6 : Rq rs o (i.toNat + (j + 1)) = Rq rs o (p + 1) * pw (qF o) q := by
    rw [show i.toNat + (j + 1) = (p + 1) + rs.length * q by omega, Rq_add n1]
  have p1 := Rq_pos h i.toNat
  have p2 := Rq_pos h p
  have p3 := pw_pos (show 0 < qF o by have := h.oct.q; grind) q
  generalize Rq rs o i.toNat = u at *
  generalize Rq rs o p = v at *
  generalize pw (qF o) q = w at *
  rw [e6, ← b2, ← a2] at e4
  rw [e5] at e3
  have n2 : v ≠ 0 := by grind
  have n3 : w ≠ 0 := by grind
  have e7 : qF (atF (stepsF (b, o, us)).1 j) * (v * w) = qF (atF (stepsF (b, o, rs)).1 p) * (v * w) := by
    rw [← e3]
    grind
  have n6 : v * w ≠ 0 := fun e => by rcases Rat.mul_eq_zero.1 e with e | e <;> contradiction
  grind
end Go.Proofs.Ytjgjcggecikdpaa
