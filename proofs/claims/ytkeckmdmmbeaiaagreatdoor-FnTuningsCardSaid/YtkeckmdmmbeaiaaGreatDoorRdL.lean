/- Plain laws: ratios brought into an octave, by division and multiplication. Conditions: as each says. -/
import Derived.Test.YtkeckmdmmbeaiaaGreatDoorQL
set_option linter.unusedSimpArgs false
set_option linter.unusedVariables false
namespace Go.Proofs.YtkeckmdmmbeaiaaGreatDoor
open Go.RowKit Sx
theorem divF_q {a b : Fr} (ha : okF a.1 a.2 = true) (hb : okF b.1 b.2 = true) (h : (divF a.1 a.2 b.1 b.2).2 = 0) : b.1 ≠ 0 ∧ qF (divF a.1 a.2 b.1 b.2).1 = qF a / qF b ∧ okF (divF a.1 a.2 b.1 b.2).1.1 (divF a.1 a.2 b.1 b.2).1.2 = true := by
  have h1 := okF_den ha
  have h2 := okF_den hb
  unfold divF at *
  rw [if_pos ⟨ha, hb⟩] at h ⊢
  by_cases hz : b.1 = 0
  · rw [if_pos hz] at h; simp at h
  rw [if_neg hz] at h ⊢
  have hd : a.2 * b.1 ≠ 0 := fun e => by rcases Int.mul_eq_zero.1 e with e | e <;> omega
  refine ⟨hz, ?_, mkF_ok hd h⟩
  rw [mkF_q hd h, Rat.intCast_mul, Rat.intCast_mul]
  have g1 := h1.1
  have g2 := h2.1
  have g3 := cast_ne hz
  unfold qF
  grind
theorem qF_pos {a : Fr} (ha : okF a.1 a.2 = true) : 0 < qF a ↔ 0 < a.1 := by
  have h2 := (okF_den ha).2
  have h := qF_le (a := (0, 1)) (b := a) (by decide) h2
  rw [cmpB_lt] at h
  have e0 : qF (0, 1) = 0 := by rw [qF_int]; rfl
  rw [e0] at h
  rw [← h]
  show 0 * a.2 < a.1 * 1 ↔ _
  omega
theorem qF_one : qF (1, 1) = 1 := by rw [qF_int]; rfl
def floorE (r : Fr) : Int := r.1 * 1000000000000 / r.2
theorem floorE_lt {s r : Fr} (hs : okF s.1 s.2 = true) (hr : okF r.1 r.2 = true) (h : cmpB s r < 0) : floorE s + 1 ≤ floorE r := by
  rw [cmpB_lt] at h
  have b1 := okF_bd hs
  have b2 := okF_bd hr
  unfold floorE
  have hX := Int.mul_ediv_add_emod (s.1 * 1000000000000) s.2
  have hm := Int.emod_nonneg (s.1 * 1000000000000) (b := s.2) (by omega)
  generalize (s.1 * 1000000000000) / s.2 = X at *
  generalize (s.1 * 1000000000000) % s.2 = m at *
  rw [Int.le_ediv_iff_mul_le (by omega)]
  have k1 : s.2 * r.2 ≤ 1000000000000 := by
    have : s.2 * r.2 ≤ 1000000 * 1000000 := Int.mul_le_mul b1.1.2 b2.1.2 (by omega) (by omega)
    omega
  have k2 : 0 ≤ m * r.2 := Int.mul_nonneg hm (by omega)
  have e1 : s.2 * X * r.2 + m * r.2 = s.1 * r.2 * 1000000000000 := by
    have : (s.2 * X + m) * r.2 = s.1 * 1000000000000 * r.2 := by rw [hX]
    grind
  have e2 : (X + 1) * r.2 * s.2 = s.2 * X * r.2 + s.2 * r.2 := by grind
  have e3 : (X + 1) * r.2 * s.2 ≤ r.1 * 1000000000000 * s.2 := by
    rw [e2]
    have : r.1 * 1000000000000 * s.2 = r.1 * s.2 * 1000000000000 := by grind
    rw [this]
    omega
  exact Int.le_of_mul_le_mul_right e3 (by omega)
theorem floorE_bd {r : Fr} (hr : okF r.1 r.2 = true) : floorE r ≤ 1000000000000000000000 ∧ (0 < r.1 → 0 ≤ floorE r) := by
  have b := okF_bd hr
  unfold floorE
  constructor
  · have : r.1 * 1000000000000 / r.2 ≤ 1000000000000000000000 / 1 := by
      rw [Int.ediv_one]
      refine Int.ediv_le_of_le_mul (by omega) ?_
      have : 1000000000000000000000 * 1 ≤ 1000000000000000000000 * r.2 := Int.mul_le_mul_of_nonneg_left b.1.1 (by omega)
      omega
    omega
  · intro h
    exact Int.ediv_nonneg (by omega) (by omega)
/-- A valid fraction greater than 0. -/
structure PosF (r : Fr) : Prop where
  ok : okF r.1 r.2 = true
  pos : 0 < r.1
structure OctF (o : Fr) : Prop where
  ok : okF o.1 o.2 = true
  big : 0 < cmpB o (1, 1)
theorem OctF.q {o : Fr} (h : OctF o) : 1 < qF o := by
  have := h.big
  rw [cmpB_gt, ← cmpB_lt, qF_le (by decide) (okF_den h.ok).2, qF_one] at this
  exact this
theorem PosF.q {r : Fr} (h : PosF r) : 0 < qF r := (qF_pos h.ok).2 h.pos
theorem div_pos {r o : Fr} (hr : PosF r) (ho : OctF o) (h : (divF r.1 r.2 o.1 o.2).2 = 0) : PosF (divF r.1 r.2 o.1 o.2).1 ∧ qF (divF r.1 r.2 o.1 o.2).1 = qF r / qF o ∧ cmpB (divF r.1 r.2 o.1 o.2).1 r < 0 := by
  obtain ⟨_, e, k⟩ := divF_q hr.ok ho.ok h
  have q1 := hr.q
  have q2 := ho.q
  have q3 : 0 < qF r / qF o := by
    rw [Rat.div_def]
    exact Rat.mul_pos q1 (Rat.inv_pos.2 (by grind))
  refine ⟨⟨k, (qF_pos k).1 (by rw [e]; exact q3)⟩, e, ?_⟩
  rw [qF_le (okF_den k).2 (okF_den hr.ok).2, e]
  have h4 : qF r / qF o * qF o = qF r := by grind
  have h5 := Rat.mul_lt_mul_of_pos_left q2 q3
  grind
theorem mul_pos' {r o : Fr} (hr : PosF r) (ho : OctF o) (h : (mulF r.1 r.2 o.1 o.2).2 = 0) : PosF (mulF r.1 r.2 o.1 o.2).1 ∧ qF (mulF r.1 r.2 o.1 o.2).1 = qF r * qF o ∧ cmpB r (mulF r.1 r.2 o.1 o.2).1 < 0 := by
  have e := mulF_q hr.ok ho.ok h
  have k := (mulF_ok hr.ok ho.ok).resolve_right (by omega)
  have q1 := hr.q
  have q2 := ho.q
  have q3 : 0 < qF r * qF o := Rat.mul_pos q1 (by grind)
  refine ⟨⟨k.2, (qF_pos k.2).1 (by rw [e]; exact q3)⟩, e, ?_⟩
  rw [qF_le (okF_den hr.ok).2 (okF_den k.2).2, e]
  have h5 := Rat.mul_lt_mul_of_pos_left q2 q1
  grind
/-! ### division -/
def dnGo (o : Fr) : Nat → Fr → Int → Fr × Int × Int
  | 0, r, n => (r, n, 0)
  | k + 1, r, n => if 0 ≤ cmpB r o then (if (divF r.1 r.2 o.1 o.2).2 = 0 then dnGo o k (divF r.1 r.2 o.1 o.2).1 (IntKind.i64.wrap (n + 1)) else ((0, 0), IntKind.i64.wrap (n + 1), 2)) else (r, n, 0)
def mD (r : Fr) : Nat := (floorE r).toNat + 1
theorem mD_dn {r o : Fr} (hr : PosF r) (ho : OctF o) (h : (divF r.1 r.2 o.1 o.2).2 = 0) : mD (divF r.1 r.2 o.1 o.2).1 + 1 ≤ mD r := by
  obtain ⟨h1, _, h2⟩ := div_pos hr ho h
  have := floorE_lt h1.ok hr.ok h2
  have := (floorE_bd h1.ok).2 h1.pos
  unfold mD
  omega
theorem dn_fuel {o : Fr} (ho : OctF o) : ∀ (k k' : Nat) (r : Fr) (n : Int), PosF r → mD r ≤ k → mD r ≤ k' → dnGo o k r n = dnGo o k' r n
  | 0, _, r, _, _, h, _ => absurd h (by unfold mD; omega)
  | k + 1, 0, r, _, _, _, h => absurd h (by unfold mD; omega)
  | k + 1, k' + 1, r, n, hr, h1, h2 => by
    unfold dnGo
    split
    · split
      · rename_i hc
        have := mD_dn hr ho hc
        exact dn_fuel ho k k' _ _ (div_pos hr ho hc).1 (by omega) (by omega)
      · rfl
    · rfl
def dnF (o r : Fr) (n : Int) : Fr × Int × Int := dnGo o (mD r) r n
theorem dn_step {o r : Fr} (ho : OctF o) (hr : PosF r) (n : Int) : dnF o r n = if 0 ≤ cmpB r o then (if (divF r.1 r.2 o.1 o.2).2 = 0 then dnF o (divF r.1 r.2 o.1 o.2).1 (IntKind.i64.wrap (n + 1)) else ((0, 0), IntKind.i64.wrap (n + 1), 2)) else (r, n, 0) := by
  have e : dnF o r n = dnGo o ((floorE r).toNat + 1) r n := rfl
  rw [e]
  unfold dnGo
  split
  · split
    · rename_i hc
      have := mD_dn hr ho hc
      exact dn_fuel ho _ _ _ _ (div_pos hr ho hc).1 (by unfold mD at *; omega) (Nat.le_refl _)
    · rfl
  · rfl
theorem dnGo_spec {o : Fr} (ho : OctF o) : ∀ (k : Nat) (r : Fr) (n : Int), PosF r → mD r ≤ k → (dnGo o k r n).2.2 = 0 ∧ PosF (dnGo o k r n).1 ∧ cmpB (dnGo o k r n).1 o < 0 ∨ (dnGo o k r n).2.2 = 2 ∧ (dnGo o k r n).1 = (0, 0)
  | 0, r, _, _, h => absurd h (by unfold mD; omega)
  | k + 1, r, n, hr, h => by
    unfold dnGo
    split
    · split
      · rename_i hc
        have := mD_dn hr ho hc
        exact dnGo_spec ho k _ _ (div_pos hr ho hc).1 (by omega)
      · exact .inr ⟨rfl, rfl⟩
    · exact .inl ⟨rfl, hr, by simp only; omega⟩
theorem dn_spec {o r : Fr} (ho : OctF o) (hr : PosF r) (n : Int) : (dnF o r n).2.2 = 0 ∧ PosF (dnF o r n).1 ∧ cmpB (dnF o r n).1 o < 0 ∨ (dnF o r n).2.2 = 2 ∧ (dnF o r n).1 = (0, 0) := dnGo_spec ho _ _ _ hr (Nat.le_refl _)
/-! ### multiplication -/
def upGo (o : Fr) : Nat → Fr → Int → Fr × Int × Int
  | 0, r, n => (r, n, 0)
  | k + 1, r, n => if cmpB r (1, 1) < 0 then (if (mulF r.1 r.2 o.1 o.2).2 = 0 then upGo o k (mulF r.1 r.2 o.1 o.2).1 (IntKind.i64.wrap (n - 1)) else ((0, 0), IntKind.i64.wrap (n - 1), 2)) else (r, n, 0)
def mU (r : Fr) : Nat := (10000000000000000000000 - floorE r).toNat
theorem mU_pos {r : Fr} (hr : PosF r) : 1 ≤ mU r := by
  have := floorE_bd hr.ok
  unfold mU
  omega
theorem mU_up {r o : Fr} (hr : PosF r) (ho : OctF o) (h : (mulF r.1 r.2 o.1 o.2).2 = 0) : mU (mulF r.1 r.2 o.1 o.2).1 + 1 ≤ mU r := by
  obtain ⟨h1, _, h2⟩ := mul_pos' hr ho h
  have := floorE_lt hr.ok h1.ok h2
  have := (floorE_bd h1.ok).1
  unfold mU
  omega
theorem up_fuel {o : Fr} (ho : OctF o) : ∀ (k k' : Nat) (r : Fr) (n : Int), PosF r → mU r ≤ k → mU r ≤ k' → upGo o k r n = upGo o k' r n
  | 0, _, r, _, hr, h, _ => absurd h (by have := mU_pos hr; omega)
  | k + 1, 0, r, _, hr, _, h => absurd h (by have := mU_pos hr; omega)
  | k + 1, k' + 1, r, n, hr, h1, h2 => by
    unfold upGo
    split
    · split
      · rename_i hc
        have := mU_up hr ho hc
        exact up_fuel ho k k' _ _ (mul_pos' hr ho hc).1 (by omega) (by omega)
      · rfl
    · rfl
def upF (o r : Fr) (n : Int) : Fr × Int × Int := upGo o (mU r) r n
theorem up_step {o r : Fr} (ho : OctF o) (hr : PosF r) (n : Int) : upF o r n = if cmpB r (1, 1) < 0 then (if (mulF r.1 r.2 o.1 o.2).2 = 0 then upF o (mulF r.1 r.2 o.1 o.2).1 (IntKind.i64.wrap (n - 1)) else ((0, 0), IntKind.i64.wrap (n - 1), 2)) else (r, n, 0) := by
  have h1 := mU_pos hr
  have e : upF o r n = upGo o ((mU r - 1) + 1) r n := by unfold upF; rw [Nat.sub_add_cancel h1]
  rw [e]
  unfold upGo
  split
  · split
    · rename_i hc
      have := mU_up hr ho hc
      exact up_fuel ho _ _ _ _ (mul_pos' hr ho hc).1 (by omega) (Nat.le_refl _)
    · rfl
  · rfl
theorem upGo_spec {o : Fr} (ho : OctF o) : ∀ (k : Nat) (r : Fr) (n : Int), PosF r → mU r ≤ k → cmpB r o < 0 → (upGo o k r n).2.2 = 0 ∧ PosF (upGo o k r n).1 ∧ cmpB (upGo o k r n).1 o < 0 ∧ 0 ≤ cmpB (upGo o k r n).1 (1, 1) ∨ (upGo o k r n).2.2 = 2 ∧ (upGo o k r n).1 = (0, 0)
  | 0, r, _, hr, h, _ => absurd h (by have := mU_pos hr; omega)
  | k + 1, r, n, hr, h, hl => by
    unfold upGo
    split
    · rename_i h1
      split
      · rename_i hc
        have := mU_up hr ho hc
        have hm := mul_pos' hr ho hc
        refine upGo_spec ho k _ _ hm.1 (by omega) ?_
        rw [qF_le (okF_den hm.1.ok).2 (okF_den ho.ok).2, hm.2.1]
        rw [qF_le (okF_den hr.ok).2 (by decide), qF_one] at h1
        have := Rat.mul_lt_mul_of_pos_right h1 (show 0 < qF o by have := ho.q; grind)
        grind
      · exact .inr ⟨rfl, rfl⟩
    · exact .inl ⟨rfl, hr, hl, by simp only; omega⟩
theorem up_spec {o r : Fr} (ho : OctF o) (hr : PosF r) (n : Int) (hl : cmpB r o < 0) : (upF o r n).2.2 = 0 ∧ PosF (upF o r n).1 ∧ cmpB (upF o r n).1 o < 0 ∧ 0 ≤ cmpB (upF o r n).1 (1, 1) ∨ (upF o r n).2.2 = 2 ∧ (upF o r n).1 = (0, 0) := upGo_spec ho _ _ _ hr (Nat.le_refl _) hl
/-- The same where there may be a code already. -/
def dnC (o r : Fr) (n c : Int) : Fr × Int × Int := if c = 0 then dnF o r n else (r, n, c)
def upC (o r : Fr) (n c : Int) : Fr × Int × Int := if c = 0 then upF o r n else (r, n, c)
/-- A ratio in its octave, how often it was divided, a code. -/
def redF (r o : Fr) : Fr × Int × Int := if (dnF o r 0).2.2 = 0 then (if (upF o (dnF o r 0).1 (dnF o r 0).2.1).2.2 = 0 then upF o (dnF o r 0).1 (dnF o r 0).2.1 else ((0, 0), 0, 2)) else ((0, 0), 0, 2)
theorem red_spec {o r : Fr} (ho : OctF o) (hr : PosF r) : (redF r o).2.2 = 0 ∧ PosF (redF r o).1 ∧ cmpB (redF r o).1 o < 0 ∧ 0 ≤ cmpB (redF r o).1 (1, 1) ∨ (redF r o).2.2 = 2 ∧ (redF r o).1 = (0, 0) ∧ (redF r o).2.1 = 0 := by
  unfold redF
  rcases dn_spec ho hr 0 with ⟨h1, h2, h3⟩ | ⟨h1, h2⟩
  · rw [if_pos h1]
    rcases up_spec ho h2 (dnF o r 0).2.1 h3 with h | ⟨h4, h5⟩
    · rw [if_pos h.1]; exact .inl h
    · rw [if_neg (by omega)]; exact .inr ⟨rfl, rfl, rfl⟩
  · rw [if_neg (by omega)]
    exact .inr ⟨rfl, rfl, rfl⟩
end Go.Proofs.YtkeckmdmmbeaiaaGreatDoor
