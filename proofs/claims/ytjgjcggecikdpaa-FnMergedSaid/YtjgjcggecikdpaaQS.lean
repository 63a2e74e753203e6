/- Plain laws: drawn scores are valid; what is done to scores can be undone. Conditions: as each says. -/
import Derived.Test.YtjgjcggecikdpaaSrtS
import Derived.Test.YtjgjcggecikdpaaDo
import Derived.Test.YtjgjcggecikdpaaSe
set_option linter.unusedSimpArgs false
set_option linter.unusedVariables false
namespace Go.Proofs.Ytjgjcggecikdpaa
open Go.RowKit Sx
/-! ### sorted scores -/
theorem noteF_at {x : tNote.den} (h : noteF x = true) : okF x.1.1 x.1.2 = true := by
  simp only [noteF, beatF, Bool.and_eq_true] at h
  exact h.1.1
theorem cmp_eq {x y : tNote.den} (hx : noteF x = true) (hy : noteF y = true) : cmpN x y = 0 ↔ x.1 = y.1 ∧ x.2.2.2.2 = y.2.2.2.2 ∧ x.2.2.1 = y.2.2.1 := by
  rw [cmpN_lex, lexI_eq]
  have h1 := noteF_at hx
  have h2 := noteF_at hy
  constructor
  · rintro ⟨e, e2, e3⟩
    exact ⟨qF_inj h1 h2 ((qF_cross h1 h2).2 e), e2, e3⟩
  · rintro ⟨e, e2, e3⟩
    exact ⟨(qF_cross h1 h2).1 (by rw [e]), e2, e3⟩
theorem sortF_of {l : List tNote.den} : ∀ (n i : Nat), i + n = l.length → 1 ≤ i → (∀ j, i ≤ j → j < l.length → cmpN (l.getD (j - 1) tNote.zero) (l.getD j tNote.zero) < 0) → sortF l n i = true
  | 0, i, _, _, _ => rfl
  | n + 1, i, h, h1, g => by
    simp only [sortF, Bool.and_eq_true, decide_eq_true_eq]
    exact ⟨g i (by omega) (by omega), sortF_of n (i + 1) (by omega) (by omega) fun j hj hl => g j (by omega) hl⟩
theorem score_of {l : List tNote.den} (hl : l.length ≤ 60) (hn : notesF l = true) (hs : Srt ltN l) (ha : Apart l) : scoreF l = true := by
  have hb := both_all l
  simp only [scoreF, hb, Bool.and_eq_true, decide_eq_true_eq]
  refine ⟨hl, hn, ?_⟩
  rcases Nat.eq_zero_or_pos l.length with h0 | h0
  · rw [h0]; rfl
  refine sortF_of (l.length - 1) 1 (by omega) (by omega) fun j hj hjl => ?_
  rw [getD_lt _ _ _ (by omega), getD_lt _ _ _ hjl]
  have a1 := List.pairwise_iff_getElem.1 hs (j - 1) j (by omega) hjl (by omega)
  have a2 := List.pairwise_iff_getElem.1 ha (j - 1) j (by omega) hjl (by omega)
  rw [← ltN_true]
  cases hc : ltN (l[j - 1]'(by omega)) l[j]
  · exact absurd (cmpN_zero.2 ⟨hc, a1⟩) a2
  · rfl
theorem makeS_ok {l : List tNote.den} (hn : notesF l = true) (ha : Apart l) : makeS l = (srt ltN l, 0) := by
  unfold makeS
  rw [if_pos hn, if_neg]
  rw [(twin_srt (notesOk hn)).2 ha]
  simp
theorem makeS_inv {l : List tNote.den} (h : (makeS l).2 = 0) : notesF l = true ∧ Apart l ∧ makeS l = (srt ltN l, 0) := by
  unfold makeS at h ⊢
  split at h
  · rename_i hn
    rw [if_pos hn]
    split at h
    · simp at h
    · rename_i ht
      rw [if_neg ht]
      exact ⟨hn, (twin_srt (notesOk hn)).1 (by simpa using ht), rfl⟩
  · simp at h
theorem makeS_code {l : List tNote.den} (hn : notesF l = true) : (makeS l).2 = 0 ∨ (makeS l).2 = 4 := by
  unfold makeS
  rw [if_pos hn]
  split
  · exact .inr rfl
  · exact .inl rfl
theorem makeS_score {l : List tNote.den} (hl : l.length ≤ 60) (h : (makeS l).2 = 0) : scoreF (makeS l).1 = true := by
  obtain ⟨hn, ha, e⟩ := makeS_inv h
  rw [e]
  have p : (srt ltN l).Perm l := srt_perm
  have ho := notesOk hn
  refine score_of (by rw [srt_len]; exact hl) ?_ (sorted_srt swoN ho) ((apart_perm p).2 ha)
  exact List.all_eq_true.2 fun x hx => List.all_eq_true.1 hn x (p.subset hx)
theorem score_parts {l : List tNote.den} (h : scoreF l = true) : notesF l = true ∧ AllOk goodN l ∧ Srt ltN l ∧ Apart l ∧ srt ltN l = l := by
  obtain ⟨o, s, a⟩ := score_srt h
  exact ⟨(score_notes h).2, o, s, a, srt_id s⟩
/-- What is done to each note is undone. -/
theorem undo {xs : List tNote.den} {F G : tNote.den → tNote.den} (hx : scoreF xs = true) (h : (makeS (xs.map F)).2 = 0) (hg : ∀ x ∈ xs, G (F x) = x) :
    scoreF (makeS (xs.map F)).1 = true ∧ makeS ((makeS (xs.map F)).1.map G) = (xs, 0) := by
  have hl := (score_notes hx).1
  obtain ⟨n, o, s, a, e⟩ := score_parts hx
  refine ⟨makeS_score (by simpa using hl) h, ?_⟩
  obtain ⟨n1, a1, e1⟩ := makeS_inv h
  rw [e1]
  have p : (srt ltN (xs.map F)).Perm (xs.map F) := srt_perm
  have p2 : ((srt ltN (xs.map F)).map G).Perm xs := by
    have e2 : (xs.map F).map G = xs := by
      rw [List.map_map]
      conv => rhs; rw [← List.map_id xs]
      exact List.map_congr_left fun x hx => hg x hx
    have := p.map G
    rwa [e2] at this
  have n2 : notesF ((srt ltN (xs.map F)).map G) = true := List.all_eq_true.2 fun x hx => List.all_eq_true.1 n x (p2.subset hx)
  rw [makeS_ok n2 ((apart_perm p2).2 a), srt_same p2 (notesOk n2) ((apart_perm p2).2 a), e]
theorem pairwise_map_in {α β : Type} {r : β → β → Prop} {q : α → α → Prop} {f : α → β} {l : List α} (h : l.Pairwise q) (hr : ∀ x ∈ l, ∀ y ∈ l, q x y → r (f x) (f y)) : (l.map f).Pairwise r := by
  rw [List.pairwise_map]
  exact h.imp_of_mem fun hx hy g => hr _ hx _ hy g
/-- Changed notes make a score where the change keeps places apart. -/
theorem makeS_map {xs : List tNote.den} {F : tNote.den → tNote.den} (hx : scoreF xs = true) (hv : ∀ x ∈ xs, noteF (F x) = true)
    (hi : ∀ x ∈ xs, ∀ y ∈ xs, (F x).1 = (F y).1 → (F x).2.2.2.2 = (F y).2.2.2.2 → (F x).2.2.1 = (F y).2.2.1 → x.1 = y.1 ∧ x.2.2.2.2 = y.2.2.2.2 ∧ x.2.2.1 = y.2.2.1) : (makeS (xs.map F)).2 = 0 := by
  obtain ⟨n, o, s, a, e⟩ := score_parts hx
  have n1 : notesF (xs.map F) = true := by
    unfold notesF
    rw [List.all_map]
    exact List.all_eq_true.2 fun x hx => hv x hx
  have a1 : Apart (xs.map F) := pairwise_map_in a fun x hx y hy hc e => hc ((cmp_eq (o x hx) (o y hy)).2 (by
    have := (cmp_eq (hv x hx) (hv y hy)).1 e
    exact hi x hx y hy this.1 this.2.1 this.2.2))
  rw [makeS_ok n1 a1]
theorem notes_map {xs : List tNote.den} {F : tNote.den → tNote.den} (hv : ∀ x ∈ xs, noteF (F x) = true) : notesF (xs.map F) = true := by
  unfold notesF
  rw [List.all_map]
  exact List.all_eq_true.2 fun x hx => hv x hx
/-! ### notes at multiples of 1/24 -/
def nu (f : Fr) : Int := f.1 * 24 / f.2
theorem nu24 {x : Int} (h : 0 ≤ x ∧ x ≤ 1000000000) : nu (r24 x) = x := by
  unfold nu
  rw [r24_cross h]
  exact Int.mul_ediv_cancel _ (by have := (okF_den (r24_ok h).1).2; omega)
/-- A note at a multiple of 1/24. -/
structure W24 (x : tNote.den) : Prop where
  at_ : x.1 = r24 (nu x.1)
  len_ : x.2.1 = r24 (nu x.2.1)
  a0 : 0 ≤ nu x.1
  a1 : nu x.1 ≤ 24000
  l0 : 1 ≤ nu x.2.1
  l1 : nu x.2.1 ≤ 24000
  key : (0 : Int) ≤ x.2.2.1 ∧ x.2.2.1 ≤ (127 : Int)
  vel : (1 : Int) ≤ x.2.2.2.1 ∧ x.2.2.2.1 ≤ (127 : Int)
  ch : (0 : Int) ≤ x.2.2.2.2 ∧ x.2.2.2.2 ≤ (15 : Int)
theorem W24.of {x : tNote.den} {A L : Int} (e1 : x.1 = r24 A) (e2 : x.2.1 = r24 L) (hA : 0 ≤ A ∧ A ≤ 24000) (hL : 1 ≤ L ∧ L ≤ 24000)
    (hk : (0 : Int) ≤ x.2.2.1 ∧ x.2.2.1 ≤ (127 : Int)) (hv : (1 : Int) ≤ x.2.2.2.1 ∧ x.2.2.2.1 ≤ (127 : Int)) (hc : (0 : Int) ≤ x.2.2.2.2 ∧ x.2.2.2.2 ≤ (15 : Int)) :
    W24 x ∧ nu x.1 = A ∧ nu x.2.1 = L := by
  have n1 : nu x.1 = A := by rw [e1]; exact nu24 (by omega)
  have n2 : nu x.2.1 = L := by rw [e2]; exact nu24 (by omega)
  refine ⟨⟨by rw [n1, e1], by rw [n2, e2], by omega, by omega, by omega, by omega, hk, hv, hc⟩, n1, n2⟩
theorem W24.valid {x : tNote.den} (h : W24 x) : noteF x = true := by
  obtain ⟨e1, e2, a0, a1, l0, l1, k, v, c⟩ := h
  unfold noteF
  have := r24_ne (x := nu x.2.1) (by omega)
  rw [e1, e2, r24_beat (by omega), r24_beat (by omega), add24 a0 (by omega) (by omega)]
  simp only [Bool.true_and, Bool.and_eq_true, Bool.not_eq_true', decide_eq_false_iff_not, decide_eq_true_eq, inB_iff]
  exact ⟨this, trivial, k, v, c⟩
/-- A drawn note. -/
structure D24 (x : tNote.den) : Prop where
  w : W24 x
  a : nu x.1 ≤ 144
  l : nu x.2.1 ≤ 72
theorem noteS_at {s : Src} {m : Int} (h : okS s m) : ∃ A, (0 ≤ A ∧ A ≤ 144) ∧ (noteS s 6).1.1 = r24 A := by
  obtain ⟨M, hM, e⟩ := beat24 h (most := 6) (by omega)
  exact ⟨M, by omega, e⟩
theorem note_d24 {s : Src} {m : Int} (h : okS s m) : D24 (noteS s 6).1 := by
  obtain ⟨A, L, e1, e2, a0, a1, l0, l1, k, v, c⟩ := note24 h (most := 6) (by omega)
  obtain ⟨B, hB, eB⟩ := noteS_at h
  obtain ⟨w, n1, n2⟩ := W24.of (x := (noteS s 6).1) eB e2 (by omega) (by omega) ⟨Int.le_trans (by decide) k.1, Int.le_trans k.2 (by decide)⟩ v c
  exact ⟨w, by omega, by omega⟩
theorem addN_d24 {l : List tNote.den} {n : tNote.den} (hl : ∀ x ∈ l, D24 x) (ha : Apart l) (hn : D24 n) : (∀ x ∈ addN l n, D24 x) ∧ Apart (addN l n) := by
  unfold addN
  split
  · exact ⟨hl, ha⟩
  · rename_i hc
    refine ⟨fun x hx => ?_, ?_⟩
    · rcases List.mem_append.1 hx with h | h
      · exact hl x h
      · rw [List.mem_singleton] at h; rw [h]; exact hn
    · refine List.pairwise_append.2 ⟨ha, List.pairwise_singleton _ _, fun x hx y hy e => hc ?_⟩
      rw [List.mem_singleton] at hy
      subst hy
      exact List.any_eq_true.2 ⟨x, hx, by simpa using e⟩
theorem drawN_d24 : ∀ (n : Nat) {s : Src} {m : Int} {l : List tNote.den}, okS s m → (∀ x ∈ l, D24 x) → Apart l → (∀ x ∈ (drawN n s l).1, D24 x) ∧ Apart (drawN n s l).1 ∧ (drawN n s l).1.length ≤ l.length + n
  | 0, _, _, _, _, hl, ha => ⟨hl, ha, Nat.le_refl _⟩
  | n + 1, s, m, l, h, hl, ha => by
    have hd := addN_d24 hl ha (note_d24 h)
    have ih := drawN_d24 n (noteS_ok h 6) hd.1 hd.2
    have hlen : (addN l (noteS s 6).1).length ≤ l.length + 1 := by
      unfold addN
      split <;> simp
    exact ⟨ih.1, ih.2.1, by have := ih.2.2; show (drawN n (noteS s 6).2 (addN l (noteS s 6).1)).1.length ≤ _; omega⟩
/-- A drawn score. -/
theorem scoreS_d24 {s : Src} {m : Int} (h : okS s m) {most : Int} (hm : 0 ≤ most ∧ most ≤ 50) : (∀ x ∈ (scoreS s most).1, D24 x) ∧ scoreF (scoreS s most).1 = true ∧ ((scoreS s most).1.length : Int) ≤ most := by
  have hb := pickS_bd h (most + 1)
  have hb1 := hb.2.1 (by omega)
  have hd := drawN_d24 (pickS s (most + 1)).1.toNat (l := []) (pickS_ok h (most + 1)) (fun x hx => absurd hx (by simp)) List.Pairwise.nil
  have e : (scoreS s most).1 = srt ltN (drawN (pickS s (most + 1)).1.toNat (pickS s (most + 1)).2 []).1 := rfl
  rw [e]
  generalize (drawN (pickS s (most + 1)).1.toNat (pickS s (most + 1)).2 []).1 = l at *
  obtain ⟨h1, h2, h3⟩ := hd
  have p : (srt ltN l).Perm l := srt_perm
  have ho : AllOk goodN l := fun x hx => (h1 x hx).w.valid
  have hlen : (srt ltN l).length = l.length := srt_len
  simp only [List.length_nil, Nat.zero_add] at h3
  refine ⟨fun x hx => h1 x (p.subset hx), score_of (by omega) (List.all_eq_true.2 fun x hx => ho x (p.subset hx)) (sorted_srt swoN ho) ((apart_perm p).2 h2), by omega⟩
/-! ### what is done is undone -/
theorem keyS_ok {F : tNote.den → tNote.den} {xs : List tNote.den} (hx : scoreF xs = true) : keyS true F xs = makeS (xs.map F) := if_pos ⟨hx, rfl⟩
theorem key_undo {F G : tNote.den → tNote.den} {xs : List tNote.den} (hx : scoreF xs = true) (h : (keyS true F xs).2 = 0) (hg : ∀ x ∈ xs, G (F x) = x) :
    scoreF (keyS true F xs).1 = true ∧ keyS true G (keyS true F xs).1 = (xs, 0) := by
  rw [keyS_ok hx] at h ⊢
  have hu := undo hx h hg
  rw [keyS_ok hu.1]
  exact hu
theorem tr_undo (v : Int) (x : tNote.den) : trF (-v) (trF v x) = x := by
  have e : ∀ k : Int, k + bnd v + bnd (-v) = k := fun k => by unfold bnd; omega
  show (x.1, x.2.1, x.2.2.1 + bnd v + bnd (-v), x.2.2.2) = x
  rw [e x.2.2.1]
theorem in_undo (v : Int) (x : tNote.den) : inF v (inF v x) = x := by
  have e : ∀ k : Int, 2 * bnd v - (2 * bnd v - k) = k := fun k => by omega
  show (x.1, x.2.1, 2 * bnd v - (2 * bnd v - x.2.2.1), x.2.2.2) = x
  rw [e x.2.2.1]
theorem sc_trans {xs : List tNote.den} (hx : scoreF xs = true) (v : Int) (h : (keyS true (trF v) xs).2 = 0) : keyS true (trF (-v)) (keyS true (trF v) xs).1 = (xs, 0) :=
  (key_undo hx h fun x _ => tr_undo v x).2
theorem sc_inv {xs : List tNote.den} (hx : scoreF xs = true) (v : Int) (h : (keyS true (inF v) xs).2 = 0) : keyS true (inF v) (keyS true (inF v) xs).1 = (xs, 0) ∧ scoreF (keyS true (inF v) xs).1 = true :=
  (key_undo hx h fun x _ => in_undo v x).symm
theorem addI {A n : Int} (hA : 0 ≤ A ∧ A ≤ 1000000) (hn : -1000 ≤ n ∧ n ≤ 1000) (h : 0 ≤ A + 24 * n) : addF (r24 A).1 (r24 A).2 n 1 = (r24 (A + 24 * n), 0) := by
  have h1 := r24_ok (n := A) (by omega)
  have h2 := r24_ok (n := A + 24 * n) (by omega)
  refine addF_of (b := (n, 1)) h1.1 (okF_int (by omega)) h2.1 ?_
  rw [h1.2.1, h2.2.1, qF_int]
  have e : ((A + 24 * n : Int) : Rat) = (A : Rat) + 24 * (n : Rat) := by push_cast; rfl
  rw [e]
  grind
theorem okF_one {s : Int} (hs : 1 ≤ s ∧ s ≤ 1000) : okF 1 s = true := by
  have : (Int.gcd 1 s : Int) = 1 := by simp
  simp only [okF, this, Bool.and_eq_true, inB_iff, beq_self_eq_true, and_true]
  omega
theorem mul_back {A s : Int} (hA : 0 ≤ A ∧ A ≤ 100000) (hs : 1 ≤ s ∧ s ≤ 1000) : mulF (r24 (A * s)).1 (r24 (A * s)).2 1 s = (r24 A, 0) := by
  have m0 : 0 ≤ A * s := Int.mul_nonneg hA.1 (by omega)
  have m1 : A * s ≤ 100000 * 1000 := Int.mul_le_mul hA.2 hs.2 (by omega) (by omega)
  have h1 := r24_ok (n := A) (by omega)
  have h2 := r24_ok (n := A * s) (by omega)
  refine mulF_of (b := (1, s)) h2.1 (okF_one hs) h1.1 ?_
  rw [h1.2.1, h2.2.1, Rat.intCast_mul]
  have hs0 := cast_ne (show s ≠ 0 by omega)
  have e1 : qF (1, s) = 1 / (s : Rat) := rfl
  rw [e1]
  grind
theorem sh_d24 {x : tNote.den} (h : D24 x) {n : Int} (hn : 1 ≤ n ∧ n ≤ 5) : W24 (shF (n, 1) x) ∧ nu (shF (n, 1) x).1 = nu x.1 + 24 * n ∧ shF (-n, 1) (shF (n, 1) x) = x := by
  obtain ⟨w, ha, hl⟩ := h
  have a0 := w.a0
  have l0 := w.l0
  have e1 := w.at_
  generalize hA : nu x.1 = A at *
  have e : (shF (n, 1) x).1 = r24 (A + 24 * n) := by
    show (addF x.1.1 x.1.2 n 1).1 = _
    rw [e1, addI (by omega) (by omega) (by omega)]
  obtain ⟨w1, n1, _⟩ := W24.of (x := shF (n, 1) x) e w.len_ (by omega) (by omega) w.key w.vel w.ch
  refine ⟨w1, n1, ?_⟩
  show ((addF (shF (n, 1) x).1.1 (shF (n, 1) x).1.2 (-n) 1).1, x.2) = x
  rw [e, addI (by omega) (by omega) (by omega), show A + 24 * n + 24 * -n = A by omega, ← e1]
theorem sc_shift {xs : List tNote.den} (hx : scoreF xs = true) (hd : ∀ x ∈ xs, D24 x) {n : Int} (hn : 1 ≤ n ∧ n ≤ 5) :
    (keyS true (shF (n, 1)) xs).2 = 0 ∧ keyS true (shF (-n, 1)) (keyS true (shF (n, 1)) xs).1 = (xs, 0) := by
  have h0 : (keyS true (shF (n, 1)) xs).2 = 0 := by
    rw [keyS_ok hx]
    refine makeS_map hx (fun x h => (sh_d24 (hd x h) hn).1.valid) fun x h y h' e1 e2 e3 => ⟨?_, e2, e3⟩
    have g1 := (sh_d24 (hd x h) hn).2.1
    have g2 := (sh_d24 (hd y h') hn).2.1
    rw [e1] at g1
    rw [(hd x h).w.at_, (hd y h').w.at_, show nu x.1 = nu y.1 by omega]
  exact ⟨h0, (key_undo hx h0 fun x h => (sh_d24 (hd x h) hn).2.2).2⟩
theorem st_d24 {x : tNote.den} (h : D24 x) {n : Int} (hn : 1 ≤ n ∧ n ≤ 5) : W24 (stF (n, 1) x) ∧ nu (stF (n, 1) x).1 = nu x.1 * n ∧ stF (1, n) (stF (n, 1) x) = x := by
  obtain ⟨w, ha, hl⟩ := h
  have a0 := w.a0
  have l0 := w.l0
  have e1 := w.at_
  have e2 := w.len_
  generalize hA : nu x.1 = A at *
  generalize hL : nu x.2.1 = L at *
  have mA : 0 ≤ A * n ∧ A * n ≤ 144 * 5 := ⟨Int.mul_nonneg a0 (by omega), Int.mul_le_mul ha hn.2 (by omega) (by omega)⟩
  have mL : 1 * 1 ≤ L * n ∧ L * n ≤ 72 * 5 := ⟨Int.mul_le_mul l0 hn.1 (by omega) (by omega), Int.mul_le_mul hl hn.2 (by omega) (by omega)⟩
  have f1 : (stF (n, 1) x).1 = r24 (A * n) := by
    show (mulF x.1.1 x.1.2 n 1).1 = _
    rw [e1, mul24 (by omega) (by omega)]
  have f2 : (stF (n, 1) x).2.1 = r24 (L * n) := by
    show (mulF x.2.1.1 x.2.1.2 n 1).1 = _
    rw [e2, mul24 (by omega) (by omega)]
  obtain ⟨w1, n1, _⟩ := W24.of (x := stF (n, 1) x) f1 f2 (by omega) (by omega) w.key w.vel w.ch
  refine ⟨w1, n1, ?_⟩
  show ((mulF (stF (n, 1) x).1.1 (stF (n, 1) x).1.2 1 n).1, (mulF (stF (n, 1) x).2.1.1 (stF (n, 1) x).2.1.2 1 n).1, x.2.2) = x
  rw [f1, f2, mul_back (by omega) (by omega), mul_back (by omega) (by omega), ← e1, ← e2]
theorem strS_ok {v : tFrac.den} {xs : List tNote.den} (hx : scoreF xs = true) (hv : okF v.1 v.2 = true) (h0 : ¬ (v.1 : Int) ≤ 0) : strS v xs = makeS (xs.map (stF v)) := by
  unfold strS
  rw [if_pos ⟨hx, hv⟩, if_neg h0]
theorem sc_stretch {xs : List tNote.den} (hx : scoreF xs = true) (hd : ∀ x ∈ xs, D24 x) {n : Int} (hn : 1 ≤ n ∧ n ≤ 5) :
    (strS (n, 1) xs).2 = 0 ∧ strS (mkF 1 n).1 (strS (n, 1) xs).1 = (xs, 0) := by
  have hm : (mkF 1 n).1 = (1, n) := by rw [mkF_self (okF_one (by omega))]
  rw [hm]
  have e1 : strS (n, 1) xs = makeS (xs.map (stF (n, 1))) := strS_ok hx (okF_int (by omega)) (show ¬ n ≤ 0 by omega)
  have h0 : (makeS (xs.map (stF (n, 1)))).2 = 0 := by
    refine makeS_map hx (fun x h => (st_d24 (hd x h) hn).1.valid) fun x h y h' e1 e2 e3 => ⟨?_, e2, e3⟩
    have g1 := (st_d24 (hd x h) hn).2.1
    have g2 := (st_d24 (hd y h') hn).2.1
    rw [e1] at g1
    have : nu x.1 * n = nu y.1 * n := by omega
    have := Int.eq_of_mul_eq_mul_right (by omega) this
    rw [(hd x h).w.at_, (hd y h').w.at_, this]
  have hu := undo hx h0 fun x h => (st_d24 (hd x h) hn).2.2
  rw [e1]
  refine ⟨h0, ?_⟩
  rw [strS_ok hu.1 (okF_one (by omega)) (show ¬ (1 : Int) ≤ 0 by decide)]
  exact hu.2
/-! ### ends -/
theorem cmpr {a b : Int} (ha : 0 ≤ a ∧ a ≤ 1000000) (hb : 0 ≤ b ∧ b ≤ 1000000) : 0 < cmpF (r24 a).1 (r24 a).2 (r24 b).1 (r24 b).2 ↔ b < a := by
  have g : ∀ {x y : Int}, 0 ≤ x → x < y → y ≤ 1000000 → (r24 x).1 * (r24 y).2 < (r24 y).1 * (r24 x).2 := fun hx h hy => by
    have := r24_lt hx h (by omega)
    unfold cmpB cmpF at this
    split at this
    · assumption
    · split at this <;> omega
  unfold cmpF
  rcases Int.lt_trichotomy a b with h | h | h
  · have := g ha.1 h hb.2
    rw [if_pos this]; omega
  · subst h
    rw [if_neg (by omega), if_neg (by omega)]; omega
  · have := g hb.1 h ha.2
    rw [if_neg (by omega), if_pos this]; omega
def en (x : tNote.den) : Int := nu x.1 + nu x.2.1
theorem endN24 {x : tNote.den} (h : W24 x) : endN x = r24 (en x) := by
  have a0 := h.a0
  have a1 := h.a1
  have l0 := h.l0
  have l1 := h.l1
  have e1 := h.at_
  have e2 := h.len_
  unfold endN en
  clear h
  generalize nu x.1 = A at *
  generalize nu x.2.1 = L at *
  rw [e1, e2, add24 (by omega) (by omega) (by omega)]
theorem en_bd {x : tNote.den} (h : W24 x) : 1 ≤ en x ∧ en x ≤ 48000 := by
  have a0 := h.a0
  have a1 := h.a1
  have l0 := h.l0
  have l1 := h.l1
  unfold en
  omega
theorem endGo24 {xs : List tNote.den} (hw : ∀ x ∈ xs, W24 x) : ∀ (n i : Nat) (e : Int), i + n = xs.length → 0 ≤ e → e ≤ 48000 →
    ∃ E, endGo xs n i (r24 e) = r24 E ∧ (e ≤ E ∧ E ≤ 48000) ∧ (∀ j, i ≤ j → j < xs.length → en (xs.getD j tNote.zero) ≤ E) ∧ (E = e ∨ ∃ x ∈ xs, en x = E)
  | 0, i, e, h, h0, h1 => ⟨e, rfl, by omega, fun j g1 g2 => by omega, .inl rfl⟩
  | n + 1, i, e, h, h0, h1 => by
    have hm : xs.getD i tNote.zero ∈ xs := by rw [getD_lt _ _ _ (by omega)]; exact List.getElem_mem _
    have w := hw _ hm
    have b := en_bd w
    have es : endStep (xs.getD i tNote.zero) (r24 e) = r24 (if e < en (xs.getD i tNote.zero) then en (xs.getD i tNote.zero) else e) := by
      unfold endStep
      rw [endN24 w]
      have := cmpr (a := en (xs.getD i tNote.zero)) (b := e) (by omega) (by omega)
      by_cases hc : e < en (xs.getD i tNote.zero)
      · rw [if_pos (this.2 hc), if_pos hc]
      · rw [if_neg (fun h => hc (this.1 h)), if_neg hc]
    have ih := endGo24 hw n (i + 1) (if e < en (xs.getD i tNote.zero) then en (xs.getD i tNote.zero) else e) (by omega) (by split <;> omega) (by split <;> omega)
    obtain ⟨E, e1, e2, e3, e4⟩ := ih
    refine ⟨E, ?_, ?_, fun j g1 g2 => ?_, ?_⟩
    · show endGo xs n (i + 1) (endStep (xs.getD i tNote.zero) (r24 e)) = _
      rw [es, e1]
    · split at e2 <;> omega
    · rcases Nat.lt_or_ge i j with h2 | h2
      · exact e3 j h2 g2
      · have : j = i := by omega
        subst this
        split at e2 <;> omega
    · split at e4
      · rcases e4 with h | h
        · exact .inr ⟨_, hm, h.symm⟩
        · exact .inr h
      · exact e4
theorem endF24 {xs : List tNote.den} (hw : ∀ x ∈ xs, W24 x) : ∃ E, endF xs = r24 E ∧ (0 ≤ E ∧ E ≤ 48000) ∧ (∀ x ∈ xs, en x ≤ E) ∧ (E = 0 ∨ ∃ x ∈ xs, en x = E) := by
  obtain ⟨E, e1, e2, e3, e4⟩ := endGo24 hw xs.length 0 0 (by omega) (by omega) (by omega)
  refine ⟨E, ?_, e2, fun x hx => ?_, e4⟩
  · rw [← e1, r24_zero]; rfl
  · obtain ⟨j, hj, rfl⟩ := List.getElem_of_mem hx
    have := e3 j (by omega) hj
    rwa [getD_lt _ _ _ hj] at this
theorem re_w24 {x : tNote.den} (h : W24 x) {E : Int} (hE : en x ≤ E ∧ E ≤ 24000) : W24 (reF (r24 E) x) ∧ nu (reF (r24 E) x).1 = E - en x ∧ (reF (r24 E) x).2 = x.2 := by
  have b := en_bd h
  have e : (reF (r24 E) x).1 = r24 (E - en x) := by
    show (subF (r24 E).1 (r24 E).2 (endN x).1 (endN x).2).1 = _
    rw [endN24 h, sub24 (by omega) hE.1 (by omega)]
  have l0 := h.l0
  have l1 := h.l1
  obtain ⟨w, n1, _⟩ := W24.of (x := reF (r24 E) x) e h.len_ (by omega) (by omega) h.key h.vel h.ch
  exact ⟨w, n1, rfl⟩
theorem sc_rev {xs : List tNote.den} (hx : scoreF xs = true) (hd : ∀ x ∈ xs, D24 x) :
    ((keyS true (reF (endF xs)) xs).2 = 0 ∨ (keyS true (reF (endF xs)) xs).2 = 4) ∧
    ((keyS true (reF (endF xs)) xs).2 = 0 → 0 < xs.length → (xs.getD 0 tNote.zero).1.1 = 0 → keyS true (reF (endF (keyS true (reF (endF xs)) xs).1)) (keyS true (reF (endF xs)) xs).1 = (xs, 0)) := by
  have hw : ∀ x ∈ xs, W24 x := fun x h => (hd x h).w
  obtain ⟨E, eE, bE, le, at_⟩ := endF24 hw
  have hE : E ≤ 216 := by
    rcases at_ with h | ⟨x, hm, h⟩
    · omega
    · have := (hd x hm).a; have := (hd x hm).l; unfold en at h; omega
  have hr := fun x (h : x ∈ xs) => re_w24 (hw x h) (E := E) ⟨le x h, by omega⟩
  rw [eE, keyS_ok hx]
  have hv := notes_map (xs := xs) (F := reF (r24 E)) fun x h => (hr x h).1.valid
  refine ⟨makeS_code hv, fun h0 hlen hz => ?_⟩
  have hs := makeS_score (by rw [List.length_map]; exact (score_notes hx).1) h0
  obtain ⟨_, _, e1⟩ := makeS_inv h0
  have p : (srt ltN (xs.map (reF (r24 E)))).Perm (xs.map (reF (r24 E))) := srt_perm
  have hmem : ∀ y ∈ (makeS (xs.map (reF (r24 E)))).1, ∃ x ∈ xs, reF (r24 E) x = y := fun y hy => by
    rw [e1] at hy
    exact List.mem_map.1 (p.subset hy)
  have hw2 : ∀ y ∈ (makeS (xs.map (reF (r24 E)))).1, W24 y := fun y hy => by
    obtain ⟨x, h, rfl⟩ := hmem y hy
    exact (hr x h).1
  obtain ⟨E2, eE2, bE2, le2, at2⟩ := endF24 hw2
  have en2 : ∀ x ∈ xs, en (reF (r24 E) x) = E - nu x.1 := fun x h => by
    have := (hr x h).2
    unfold en
    rw [this.1, this.2]
    unfold en
    omega
  have m0 : xs.getD 0 tNote.zero ∈ xs := by rw [getD_lt _ _ _ hlen]; exact List.getElem_mem _
  have a0 : nu (xs.getD 0 tNote.zero).1 = 0 := by
    have w := hw _ m0
    rcases Int.lt_or_le 0 (nu (xs.getD 0 tNote.zero).1) with h | h
    · have := r24_ne (x := nu (xs.getD 0 tNote.zero).1) (by have := w.a1; omega)
      rw [← w.at_] at this
      exact absurd hz this
    · have := w.a0; omega
  have hE2 : E2 = E := by
    have h1 := le2 (reF (r24 E) (xs.getD 0 tNote.zero)) (by rw [e1]; exact p.symm.subset (List.mem_map.2 ⟨_, m0, rfl⟩))
    rw [en2 _ m0, a0] at h1
    have b0 := en_bd (hw _ m0)
    have l0 := le _ m0
    rcases at2 with h | ⟨y, hy, h⟩
    · omega
    · obtain ⟨x, hxm, rfl⟩ := hmem y hy
      rw [en2 x hxm] at h
      have := (hw x hxm).a0
      omega
  rw [eE2, hE2]
  rw [keyS_ok hs]
  refine (undo hx h0 fun x h => ?_).2
  have g := hr x h
  have g2 := re_w24 g.1 (E := E) ⟨by rw [en2 x h]; have := (hw x h).a0; omega, by omega⟩
  have w := hw x h
  have : (reF (r24 E) (reF (r24 E) x)).1 = x.1 := by
    rw [g2.1.at_, g2.2.1, en2 x h, show E - (E - nu x.1) = nu x.1 by omega, ← w.at_]
  show ((reF (r24 E) (reF (r24 E) x)).1, x.2) = x
  rw [this]
end Go.Proofs.Ytjgjcggecikdpaa
