/- Frequencies of the keys of a valid tuning rise from key to key. Conditions: as each says. -/
import Derived.Test.YtdglkoeojhakhaaFi
import Derived.Test.YtdglkoeojhakhaaNkL
set_option linter.unusedSimpArgs false
set_option linter.unusedVariables false
namespace Go.Proofs.Ytdglkoeojhakhaa
theorem mulEx {a b c d : Int} (h1 : okF a b = true) (h2 : okF c d = true) (ha : 0 < a) (hc : 0 < c) (h : (mulF a b c d).2 = 0) :
    (mulF a b c d).1.1 * (b * d) = a * c * (mulF a b c d).1.2 ∧ 0 < (mulF a b c d).1.1 ∧ 0 < (mulF a b c d).1.2 ∧ okF (mulF a b c d).1.1 (mulF a b c d).1.2 = true := by
  have hb := (okF_bd h1).1
  have hd := (okF_bd h2).1
  have hbd : 0 < b * d := Int.mul_pos (by omega) (by omega)
  have hac : 0 < a * c := Int.mul_pos ha hc
  have hok : okF (mulF a b c d).1.1 (mulF a b c d).1.2 = true := by
    rcases mulF_ok h1 h2 with g | g
    · exact g.2
    · omega
  have hq := (okF_bd hok).1
  have e : mulF a b c d = mkF (a * c) (b * d) := by
    unfold mulF opF
    rw [h1, h2]; rfl
  have key : (mulF a b c d).1.1 * (b * d) = a * c * (mulF a b c d).1.2 := by
    rw [e] at h ⊢
    rw [mkF_pos _ _ (by omega)] at h ⊢
    generalize a * c = n at *
    generalize b * d = m at *
    split at h
    · simp at h
    · rename_i hne
      rw [if_neg hne]
      have s1 : (decide (n < 0) != decide (m < 0)) = false := by
        rw [decide_eq_false (by omega), decide_eq_false (by omega)]; rfl
      simp only [s1, Bool.false_eq_true, if_false]
      have n1 : (n.natAbs : Int) = n := by omega
      have m1 : (m.natAbs : Int) = m := by omega
      rw [n1, m1]
      have g1 : (Int.gcd n m : Int) * (n / (Int.gcd n m : Int)) = n := Int.mul_ediv_cancel' (Int.gcd_dvd_left ..)
      have g2 : (Int.gcd n m : Int) * (m / (Int.gcd n m : Int)) = m := Int.mul_ediv_cancel' (Int.gcd_dvd_right ..)
      generalize n / (Int.gcd n m : Int) = x at *
      generalize m / (Int.gcd n m : Int) = y at *
      generalize (Int.gcd n m : Int) = g at *
      subst g1 g2
      show x * (g * y) = g * x * y
      grind
  refine ⟨key, ?_, by omega, hok⟩
  have : 0 < (mulF a b c d).1.1 * (b * d) := by rw [key]; exact Int.mul_pos hac (by omega)
  exact Int.lt_of_mul_lt_mul_right (a := b * d) (by rw [Int.zero_mul]; exact this) (by omega)
theorem rise {ea eb ra rb sa sb p q p' q' : Int} (h1 : p * (eb * rb) = ea * ra * q) (h2 : p' * (eb * sb) = ea * sa * q') (hea : 0 < ea) (heb : 0 < eb) (hrb : 0 < rb) (hsb : 0 < sb) (hq : 0 < q) (hq' : 0 < q')
    (h : ra * sb < sa * rb) : p * q' < p' * q := by
  have hK : 0 < eb * rb * sb := Int.mul_pos (Int.mul_pos heb hrb) hsb
  refine Int.lt_of_mul_lt_mul_right (a := eb * rb * sb) ?_ (by omega)
  have hM : 0 < ea * q * q' := Int.mul_pos (Int.mul_pos hea hq) hq'
  have h3 : ra * sb * (ea * q * q') < sa * rb * (ea * q * q') := Int.mul_lt_mul_of_pos_right h hM
  have e1 : p * q' * (eb * rb * sb) = ra * sb * (ea * q * q') := by
    calc p * q' * (eb * rb * sb) = p * (eb * rb) * (q' * sb) := by grind
      _ = ra * sb * (ea * q * q') := by rw [h1]; grind
  have e2 : p' * q * (eb * rb * sb) = sa * rb * (ea * q * q') := by
    calc p' * q * (eb * rb * sb) = p' * (eb * sb) * (q * rb) := by grind
      _ = sa * rb * (ea * q * q') := by rw [h2]; grind
  omega
theorem via {ea eb oa ob fa fb p' q' : Int} (h1 : fa * (eb * ob) = ea * oa * fb) (h2 : p' * (fb * 1) = fa * 1 * q') (hf : 0 < fb) : p' * (eb * ob) = ea * oa * q' := by
  refine Int.eq_of_mul_eq_mul_right (a := fb) (by omega) ?_
  calc p' * (eb * ob) * fb = p' * (fb * 1) * (eb * ob) := by grind
    _ = fa * (eb * ob) * q' := by rw [h2]; grind
    _ = ea * oa * q' * fb := by rw [h1]; grind
theorem freqGo_snoc (oa ob : Int) : ∀ (n : Nat) (e : Int × Int), (freqGo oa ob (n + 1) e).2 = 0 →
    (freqGo oa ob n e).2 = 0 ∧ (mulF (freqGo oa ob n e).1.1 (freqGo oa ob n e).1.2 oa ob).2 = 0 ∧ (freqGo oa ob (n + 1) e).1 = (mulF (freqGo oa ob n e).1.1 (freqGo oa ob n e).1.2 oa ob).1
  | 0, e, h => by
    simp only [freqGo] at h ⊢
    split at h
    · rename_i hc; exact ⟨trivial, hc, by rw [if_pos hc]⟩
    · simp at h
  | n + 1, e, h => by
    rw [freqGo] at h
    split at h
    · rename_i hc
      have := freqGo_snoc oa ob n _ h
      rw [show freqGo oa ob (n + 1 + 1) e = freqGo oa ob (n + 1) (mulF e.1 e.2 oa ob).1 by rw [freqGo, if_pos hc], show freqGo oa ob (n + 1) e = freqGo oa ob n (mulF e.1 e.2 oa ob).1 by rw [freqGo, if_pos hc]]
      exact this
    · simp at h
theorem freqGo_pos {oa ob : Int} (ho : okF oa ob = true) (hoa : 0 < oa) : ∀ (n : Nat) (e : Int × Int), okF e.1 e.2 = true → 0 < e.1 → 0 < (freqGo oa ob n e).1.1
  | 0, _, _, h => h
  | n + 1, e, h, hp => by
    unfold freqGo
    split
    · rename_i hc
      have g := mulEx h ho hp hoa hc
      exact freqGo_pos ho hoa n _ g.2.2.2 g.2.1
    · exact hp
theorem ratT_at (rs : List tFrac.den) (a b : Int) : ∀ (n i : Nat), ratT rs a b n i = true → ∀ j, i ≤ j → j < i + n →
    okF (atF rs j).1 (atF rs j).2 = true ∧ cmpF (atF rs j).1 (atF rs j).2 a b < 0 ∧ (j = 0 ∨ cmpF (atF rs (j - 1)).1 (atF rs (j - 1)).2 (atF rs j).1 (atF rs j).2 < 0)
  | 0, i, _, j, h1, h2 => by omega
  | n + 1, i, h, j, h1, h2 => by
    simp only [ratT, Bool.and_eq_true, decide_eq_true_eq] at h
    by_cases hj : j = i
    · subst hj; exact ⟨h.1, h.2.1, h.2.2.1⟩
    · exact ratT_at rs a b n (i + 1) h.2.2.2 j (by omega) (by omega)
theorem cmpF_lt {a b c d : Int} (h : cmpF a b c d < 0) : a * d < c * b := by
  unfold cmpF at h
  split at h
  · assumption
  · split at h <;> omega
theorem rat_pos {rs : List tFrac.den} {a b : Int} (h : ratT rs a b rs.length 0 = true) (h0 : (atF rs 0).1 = 1) : ∀ j : Nat, j < rs.length → 0 < (atF rs j).1
  | 0, _ => by rw [h0]; omega
  | j + 1, hj => by
    have ih := rat_pos h h0 j (by omega)
    obtain ⟨g1, g2, g3⟩ := ratT_at rs a b rs.length 0 h (j + 1) (by omega) (by omega)
    obtain ⟨k1, k2, k3⟩ := ratT_at rs a b rs.length 0 h j (by omega) (by omega)
    have g4 := cmpF_lt (g3.resolve_left (by omega))
    rw [show j + 1 - 1 = j by omega] at g4
    have b1 := (okF_bd g1).1
    have b2 := (okF_bd k1).1
    have : 0 < (atF rs j).1 * (atF rs (j + 1)).2 := Int.mul_pos ih (by omega)
    exact Int.lt_of_mul_lt_mul_right (a := (atF rs j).2) (by rw [Int.zero_mul]; omega) (by omega)
theorem freqF_ex {x : tTuning.den} {k : Int} (h : (freqF x k).2 = 0) :
    (freqGo x.2.1.1 x.2.1.2 (k / ((x.2.2 : List tFrac.den).length : Int)).toNat x.1).2 = 0 ∧
      freqF x k = mulF (freqGo x.2.1.1 x.2.1.2 (k / ((x.2.2 : List tFrac.den).length : Int)).toNat x.1).1.1 (freqGo x.2.1.1 x.2.1.2 (k / ((x.2.2 : List tFrac.den).length : Int)).toNat x.1).1.2 (atF x.2.2 (k % ((x.2.2 : List tFrac.den).length : Int)).toNat).1 (atF x.2.2 (k % ((x.2.2 : List tFrac.den).length : Int)).toNat).2 := by
  unfold freqF at h ⊢
  split at h
  · rename_i hc; exact ⟨hc, by rw [if_pos hc]⟩
  · simp at h
theorem next_key (k n : Int) (h0 : 0 ≤ k) (hn : 1 ≤ n) : ((k + 1) / n = k / n ∧ (k + 1) % n = k % n + 1 ∧ k % n + 1 < n) ∨ ((k + 1) / n = k / n + 1 ∧ (k + 1) % n = 0 ∧ k % n = n - 1) := by
  have h1 := Int.mul_ediv_add_emod k n
  have h2 := Int.emod_nonneg k (b := n) (by omega)
  have h3 := Int.emod_lt_of_pos k (b := n) (by omega)
  by_cases h : k % n + 1 < n
  · have := (Int.ediv_emod_unique (a := k + 1) (b := n) (r := k % n + 1) (q := k / n) (by omega)).2 ⟨by omega, by omega, h⟩
    exact .inl ⟨this.1, this.2, h⟩
  · have := (Int.ediv_emod_unique (a := k + 1) (b := n) (r := 0) (q := k / n + 1) (by omega)).2 ⟨by rw [Int.mul_add]; omega, by omega, by omega⟩
    exact .inr ⟨this.1, this.2, by omega⟩
theorem freq_rise {x : tTuning.den} (hx : tuneF x = true) {k : Int} (h0 : 0 ≤ k) (c1 : (freqF x k).2 = 0) (c2 : (freqF x (k + 1)).2 = 0) :
    (freqF x k).1.1 * (freqF x (k + 1)).1.2 < (freqF x (k + 1)).1.1 * (freqF x k).1.2 := by
  have ht := hx
  simp only [tuneF, Bool.and_eq_true, decide_eq_true_eq] at ht
  obtain ⟨hb, hbp, ho, hop, hlen, hr0, hrat⟩ := ht
  have hoa : (0 : Int) < x.2.1.1 := by
    have h := hop
    have b1 := (okF_bd ho).1
    unfold cmpF at h
    split at h
    · omega
    · split at h <;> omega
  obtain ⟨e1, f1⟩ := freqF_ex c1
  obtain ⟨e2, f2⟩ := freqF_ex c2
  rw [f1] at c1 ⊢
  rw [f2] at c2 ⊢
  clear f1 f2
  have hrp := rat_pos hrat hr0.1
  have hra := fun j (hj : j < (x.2.2 : List tFrac.den).length) => ratT_at x.2.2 _ _ _ 0 hrat j (by omega) (by omega)
  have hm0 := Int.emod_nonneg k (b := ((x.2.2 : List tFrac.den).length : Int)) (by omega)
  have hm1 := Int.emod_lt_of_pos k (b := ((x.2.2 : List tFrac.den).length : Int)) (by omega)
  have hd0 : 0 ≤ k / ((x.2.2 : List tFrac.den).length : Int) := Int.ediv_nonneg h0 (by omega)
  have hrk := hra (k % ((x.2.2 : List tFrac.den).length : Int)).toNat (by omega)
  have hpk := hrp (k % ((x.2.2 : List tFrac.den).length : Int)).toNat (by omega)
  have hEo := freqGo_ok ho (k / ((x.2.2 : List tFrac.den).length : Int)).toNat x.1 hb
  have hEp := freqGo_pos ho hoa (k / ((x.2.2 : List tFrac.den).length : Int)).toNat x.1 hb hbp
  have m1 := mulEx hEo hrk.1 hEp hpk c1
  have hEb := (okF_bd hEo).1
  have hrb := (okF_bd hrk.1).1
  rcases next_key k ((x.2.2 : List tFrac.den).length : Int) h0 (by omega) with ⟨d1, d2, d3⟩ | ⟨d1, d2, d3⟩
  · rw [d1, d2] at c2 ⊢
    have hrk' := hra (k % ((x.2.2 : List tFrac.den).length : Int) + 1).toNat (by omega)
    have hpk' := hrp (k % ((x.2.2 : List tFrac.den).length : Int) + 1).toNat (by omega)
    have m2 := mulEx hEo hrk'.1 hEp hpk' c2
    have hrb' := (okF_bd hrk'.1).1
    have hl := cmpF_lt (hrk'.2.2.resolve_left (by omega))
    rw [show (k % ((x.2.2 : List tFrac.den).length : Int) + 1).toNat - 1 = (k % ((x.2.2 : List tFrac.den).length : Int)).toNat by omega] at hl
    exact rise m1.1 m2.1 hEp (by omega) (by omega) (by omega) m1.2.2.1 m2.2.2.1 hl
  · rw [d1, d2] at c2 ⊢
    rw [d1] at e2
    rw [show (k / ((x.2.2 : List tFrac.den).length : Int) + 1).toNat = (k / ((x.2.2 : List tFrac.den).length : Int)).toNat + 1 by omega] at c2 e2 ⊢
    obtain ⟨_, s2, s3⟩ := freqGo_snoc _ _ _ _ e2
    have mo := mulEx hEo ho hEp hoa s2
    rw [s3] at c2 ⊢
    rw [show (0 : Int).toNat = 0 by rfl, hr0.1, hr0.2] at c2 ⊢
    have m2 := mulEx mo.2.2.2 (show okF 1 1 = true by decide) mo.2.1 (by omega) c2
    have m3 := via mo.1 m2.1 mo.2.2.1
    have hbo := (okF_bd ho).1
    exact rise m1.1 m3 hEp (by omega) (by omega) (by omega) m1.2.2.1 m2.2.2.1 (cmpF_lt hrk.2.1)
end Go.Proofs.Ytdglkoeojhakhaa
