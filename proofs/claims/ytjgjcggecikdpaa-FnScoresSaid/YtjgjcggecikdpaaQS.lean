/- Plain laws: drawn scores are valid; what is done to scores can be undone. Conditions: as each says. -/
import Derived.Test.YtjgjcggecikdpaaSrtS
import Derived.Test.YtjgjcggecikdpaaDo
set_option linter.unusedSimpArgs false
set_option linter.unusedVariables false
namespace Go.Proofs.Ytjgjcggecikdpaa
open Go.RowKit Sx
/-! ### sorted scores -/
theorem noteF_at {x : tNote.den} (h : noteF x = true) : okF x.1.1 x.1.2 = true := by
  simp only [noteF, beatF, Bool.and_eq_true] at h
  exact h.1.1
theorem cmp_eq {x y : tNote.den} (hx : noteF x = true) (hy : noteF y = true) : cmpN x y = 0 ↔ x.1 = y.1 ∧ x.2.2.2.2 = y.2.2.2.2 ∧ x.2.2.1 = y.2.2.1 := by
  rw [cmpN_lex, lexI_eq]
  have h1 := noteF_at hx
  have h2 := noteF_at hy
  constructor
  · rintro ⟨e, e2, e3⟩
    exact ⟨qF_inj h1 h2 ((qF_cross h1 h2).2 e), e2, e3⟩
  · rintro ⟨e, e2, e3⟩
    exact ⟨(qF_cross h1 h2).1 (by rw [e]), e2, e3⟩
theorem apart_mem {l : List tNote.den} (h : Apart l) {x y : tNote.den} (hx : x ∈ l) (hy : y ∈ l) (e : cmpN x y = 0) : x = y := by
  obtain ⟨i, hi, rfl⟩ := List.getElem_of_mem hx
  obtain ⟨j, hj, rfl⟩ := List.getElem_of_mem hy
  rcases Nat.lt_trichotomy i j with h1 | h1 | h1
  · exact absurd e (List.pairwise_iff_getElem.1 h i j hi hj h1)
  · subst h1; rfl
  · exact absurd e (cmpN_symm (List.pairwise_iff_getElem.1 h j i hj hi h1))
theorem srt_same {l l' : List tNote.den} (hp : l.Perm l') (ho : AllOk goodN l) (ha : Apart l) : srt ltN l = srt ltN l' := by
  have ho' : AllOk goodN l' := fun x hx => ho x (hp.symm.subset hx)
  have p1 : (srt ltN l).Perm l := srt_perm
  have p2 : (srt ltN l').Perm l' := srt_perm
  refine List.Perm.eq_of_pairwise (le := fun x y => ltN y x = false) (fun a b h1 h2 g1 g2 => ?_) (sorted_srt swoN ho) (sorted_srt swoN ho') (p1.trans (hp.trans p2.symm))
  exact apart_mem ha (p1.subset h1) (hp.symm.subset (p2.subset h2)) (cmpN_zero.2 ⟨g2, g1⟩)
theorem sortF_of {l : List tNote.den} : ∀ (n i : Nat), i + n = l.length → 1 ≤ i → (∀ j, i ≤ j → j < l.length → cmpN (l.getD (j - 1) tNote.zero) (l.getD j tNote.zero) < 0) → sortF l n i = true
  | 0, i, _, _, _ => rfl
  | n + 1, i, h, h1, g => by
    simp only [sortF, Bool.and_eq_true, decide_eq_true_eq]
    exact ⟨g i (by omega) (by omega), sortF_of n (i + 1) (by omega) (by omega) fun j hj hl => g j (by omega) hl⟩
theorem score_of {l : List tNote.den} (hl : l.length ≤ 60) (hn : notesF l = true) (hs : Srt ltN l) (ha : Apart l) : scoreF l = true := by
  have hb := both_all l
  simp only [scoreF, hb, Bool.and_eq_true, decide_eq_true_eq]
  refine ⟨hl, hn, ?_⟩
  rcases Nat.eq_zero_or_pos l.length with h0 | h0
  · rw [h0]; rfl
  refine sortF_of (l.length - 1) 1 (by omega) (by omega) fun j hj hjl => ?_
  rw [getD_lt _ _ _ (by omega), getD_lt _ _ _ hjl]
  have a1 := List.pairwise_iff_getElem.1 hs (j - 1) j (by omega) hjl (by omega)
  have a2 := List.pairwise_iff_getElem.1 ha (j - 1) j (by omega) hjl (by omega)
  rw [← ltN_true]
  cases hc : ltN (l[j - 1]'(by omega)) l[j]
  · exact absurd (cmpN_zero.2 ⟨hc, a1⟩) a2
  · rfl
theorem makeS_ok {l : List tNote.den} (hn : notesF l = true) (ha : Apart l) : makeS l = (srt ltN l, 0) := by
  unfold makeS
  rw [if_pos hn, if_neg]
  rw [(twin_srt (notesOk hn)).2 ha]
  simp
theorem makeS_inv {l : List tNote.den} (h : (makeS l).2 = 0) : notesF l = true ∧ Apart l ∧ makeS l = (srt ltN l, 0) := by
  unfold makeS at h ⊢
  split at h
  · rename_i hn
    rw [if_pos hn]
    split at h
    · simp at h
    · rename_i ht
      rw [if_neg ht]
      exact ⟨hn, (twin_srt (notesOk hn)).1 (by simpa using ht), rfl⟩
  · simp at h
theorem makeS_code {l : List tNote.den} (hn : notesF l = true) : (makeS l).2 = 0 ∨ (makeS l).2 = 4 := by
  unfold makeS
  rw [if_pos hn]
  split
  · exact .inr rfl
  · exact .inl rfl
theorem makeS_score {l : List tNote.den} (hl : l.length ≤ 60) (h : (makeS l).2 = 0) : scoreF (makeS l).1 = true := by
  obtain ⟨hn, ha, e⟩ := makeS_inv h
  rw [e]
  have p : (srt ltN l).Perm l := srt_perm
  have ho := notesOk hn
  refine score_of (by rw [srt_len]; exact hl) ?_ (sorted_srt swoN ho) ((apart_perm p).2 ha)
  exact List.all_eq_true.2 fun x hx => List.all_eq_true.1 hn x (p.subset hx)
theorem score_parts {l : List tNote.den} (h : scoreF l = true) : notesF l = true ∧ AllOk goodN l ∧ Srt ltN l ∧ Apart l ∧ srt ltN l = l := by
  obtain ⟨o, s, a⟩ := score_srt h
  exact ⟨(score_notes h).2, o, s, a, srt_id s⟩
/-- What is done to each note is undone. -/
theorem undo {xs : List tNote.den} {F G : tNote.den → tNote.den} (hx : scoreF xs = true) (h : (makeS (xs.map F)).2 = 0) (hg : ∀ x ∈ xs, G (F x) = x) :
    scoreF (makeS (xs.map F)).1 = true ∧ makeS ((makeS (xs.map F)).1.map G) = (xs, 0) := by
  have hl := (score_notes hx).1
  obtain ⟨n, o, s, a, e⟩ := score_parts hx
  refine ⟨makeS_score (by simpa using hl) h, ?_⟩
  obtain ⟨n1, a1, e1⟩ := makeS_inv h
  rw [e1]
  have p : (srt ltN (xs.map F)).Perm (xs.map F) := srt_perm
  have p2 : ((srt ltN (xs.map F)).map G).Perm xs := by
    have e2 : (xs.map F).map G = xs := by
      rw [List.map_map]
      conv => rhs; rw [← List.map_id xs]
      exact List.map_congr_left fun x hx => hg x hx
    have := p.map G
    rwa [e2] at this
  have n2 : notesF ((srt ltN (xs.map F)).map G) = true := List.all_eq_true.2 fun x hx => List.all_eq_true.1 n x (p2.subset hx)
  rw [makeS_ok n2 ((apart_perm p2).2 a), srt_same p2 (notesOk n2) ((apart_perm p2).2 a), e]
theorem pairwise_map_in {α β : Type} {r : β → β → Prop} {q : α → α → Prop} {f : α → β} {l : List α} (h : l.Pairwise q) (hr : ∀ x ∈ l, ∀ y ∈ l, q x y → r (f x) (f y)) : (l.map f).Pairwise r := by
  rw [List.pairwise_map]
  exact h.imp_of_mem fun hx hy g => hr _ hx _ hy g
/-- Changed notes make a score where the change keeps places apart. -/
theorem makeS_map {xs : List tNote.den} {F : tNote.den → tNote.den} (hx : scoreF xs = true) (hv : ∀ x ∈ xs, noteF (F x) = true)
    (hi : ∀ x ∈ xs, ∀ y ∈ xs, (F x).1 = (F y).1 → (F x).2.2.2.2 = (F y).2.2.2.2 → (F x).2.2.1 = (F y).2.2.1 → x.1 = y.1 ∧ x.2.2.2.2 = y.2.2.2.2 ∧ x.2.2.1 = y.2.2.1) : (makeS (xs.map F)).2 = 0 := by
  obtain ⟨n, o, s, a, e⟩ := score_parts hx
  have n1 : notesF (xs.map F) = true := by
    unfold notesF
    rw [List.all_map]
    exact List.all_eq_true.2 fun x hx => hv x hx
  have a1 : Apart (xs.map F) := pairwise_map_in a fun x hx y hy hc e => hc ((cmp_eq (o x hx) (o y hy)).2 (by
    have := (cmp_eq (hv x hx) (hv y hy)).1 e
    exact hi x hx y hy this.1 this.2.1 this.2.2))
  rw [makeS_ok n1 a1]
theorem notes_map {xs : List tNote.den} {F : tNote.den → tNote.den} (hv : ∀ x ∈ xs, noteF (F x) = true) : notesF (xs.map F) = true := by
  unfold notesF
  rw [List.all_map]
  exact List.all_eq_true.2 fun x hx => hv x hx
/-! ### notes at multiples of 1/24 -/
def nu (f : Fr) : Int := f.1 * 24 / f.2
theorem nu24 {x : Int} (h : 0 ≤ x ∧ x ≤ 1000000000) : nu (r24 x) = x := by
  unfold nu
  rw [r24_cross h]
  exact Int.mul_ediv_cancel _ (by have := (okF_den (r24_ok h).1).2; omega)
/-- A note at a multiple of 1/24. -/
structure W24 (x : tNote.den) : Prop where
  at_ : x.1 = r24 (nu x.1)
  len_ : x.2.1 = r24 (nu x.2.1)
  a0 : 0 ≤ nu x.1
  a1 : nu x.1 ≤ 24000
  l0 : 1 ≤ nu x.2.1
  l1 : nu x.2.1 ≤ 24000
  key : (0 : Int) ≤ x.2.2.1 ∧ x.2.2.1 ≤ (127 : Int)
  vel : (1 : Int) ≤ x.2.2.2.1 ∧ x.2.2.2.1 ≤ (127 : Int)
  ch : (0 : Int) ≤ x.2.2.2.2 ∧ x.2.2.2.2 ≤ (15 : Int)
theorem W24.of {x : tNote.den} {A L : Int} (e1 : x.1 = r24 A) (e2 : x.2.1 = r24 L) (hA : 0 ≤ A ∧ A ≤ 24000) (hL : 1 ≤ L ∧ L ≤ 24000)
    (hk : (0 : Int) ≤ x.2.2.1 ∧ x.2.2.1 ≤ (127 : Int)) (hv : (1 : Int) ≤ x.2.2.2.1 ∧ x.2.2.2.1 ≤ (127 : Int)) (hc : (0 : Int) ≤ x.2.2.2.2 ∧ x.2.2.2.2 ≤ (15 : Int)) :
    W24 x ∧ nu x.1 = A ∧ nu x.2.1 = L := by
  have n1 : nu x.1 = A := by rw [e1]; exact nu24 (by omega)
  have n2 : nu x.2.1 = L := by rw [e2]; exact nu24 (by omega)
  refine ⟨⟨by rw [n1, e1], by rw [n2, e2], by omega, by omega, by omega, by omega, hk, hv, hc⟩, n1, n2⟩
theorem W24.valid {x : tNote.den} (h : W24 x) : noteF x = true := by
  obtain ⟨e1, e2, a0, a1, l0, l1, k, v, c⟩ := h
  unfold noteF
  have := r24_ne (x := nu x.2.1) (by omega)
  rw [e1, e2, r24_beat (by omega), r24_beat (by omega), add24 a0 (by omega) (by omega)]
  simp only [Bool.true_and, Bool.and_eq_true, Bool.not_eq_true', decide_eq_false_iff_not, decide_eq_true_eq, inB_iff]
  exact ⟨this, trivial, k, v, c⟩
/-- A drawn note. -/
structure D24 (x : tNote.den) : Prop where
  w : W24 x
  a : nu x.1 ≤ 144
  l : nu x.2.1 ≤ 72
theorem noteS_at {s : Src} {m : Int} (h : okS s m) : ∃ A, (0 ≤ A ∧ A ≤ 144) ∧ (noteS s 6).1.1 = r24 A := by
  obtain ⟨M, hM, e⟩ := beat24 h (most := 6) (by omega)
  exact ⟨M, by omega, e⟩
theorem note_d24 {s : Src} {m : Int} (h : okS s m) : D24 (noteS s 6).1 := by
  obtain ⟨A, L, e1, e2, a0, a1, l0, l1, k, v, c⟩ := note24 h (most := 6) (by omega)
  obtain ⟨B, hB, eB⟩ := noteS_at h
  obtain ⟨w, n1, n2⟩ := W24.of (x := (noteS s 6).1) eB e2 (by omega) (by omega) ⟨Int.le_trans (by decide) k.1, Int.le_trans k.2 (by decide)⟩ v c
  exact ⟨w, by omega, by omega⟩
theorem addN_d24 {l : List tNote.den} {n : tNote.den} (hl : ∀ x ∈ l, D24 x) (ha : Apart l) (hn : D24 n) : (∀ x ∈ addN l n, D24 x) ∧ Apart (addN l n) := by
  unfold addN
  split
  · exact ⟨hl, ha⟩
  · rename_i hc
    refine ⟨fun x hx => ?_, ?_⟩
    · rcases List.mem_append.1 hx with h | h
      · exact hl x h
      · rw [List.mem_singleton] at h; rw [h]; exact hn
    · refine List.pairwise_append.2 ⟨ha, List.pairwise_singleton _ _, fun x hx y hy e => hc ?_⟩
      rw [List.mem_singleton] at hy
      subst hy
      exact List.any_eq_true.2 ⟨x, hx, by simpa using e⟩
theorem drawN_d24 : ∀ (n : Nat) {s : Src} {m : Int} {l : List tNote.den}, okS s m → (∀ x ∈ l, D24 x) → Apart l → (∀ x ∈ (drawN n s l).1, D24 x) ∧ Apart (drawN n s l).1 ∧ (drawN n s l).1.length ≤ l.length + n
  | 0, _, _, _, _, hl, ha => ⟨hl, ha, Nat.le_refl _⟩
  | n + 1, s, m, l, h, hl, ha => by
    have hd := addN_d24 hl ha (note_d24 h)
    have ih := drawN_d24 n (noteS_ok h 6) hd.1 hd.2
    have hlen : (addN l (noteS s 6).1).length ≤ l.length + 1 := by
      unfold addN
      split <;> simp
    exact ⟨ih.1, ih.2.1, by have := ih.2.2; show (drawN n (noteS s 6).2 (addN l (noteS s 6).1)).1.length ≤ _; omega⟩
/-- A drawn score. -/
theorem scoreS_d24 {s : Src} {m : Int} (h : okS s m) {most : Int} (hm : 0 ≤ most ∧ most ≤ 50) : (∀ x ∈ (scoreS s most).1, D24 x) ∧ scoreF (scoreS s most).1 = true ∧ ((scoreS s most).1.length : Int) ≤ most := by
  have hb := pickS_bd h (most + 1)
  have hb1 := hb.2.1 (by omega)
  have hd := drawN_d24 (pickS s (most + 1)).1.toNat (l := []) (pickS_ok h (most + 1)) (fun x hx => absurd hx (by simp)) List.Pairwise.nil
  have e : (scoreS s most).1 = srt ltN (drawN (pickS s (most + 1)).1.toNat (pickS s (most + 1)).2 []).1 := rfl
  rw [e]
  generalize (drawN (pickS s (most + 1)).1.toNat (pickS s (most + 1)).2 []).1 = l at *
  obtain ⟨h1, h2, h3⟩ := hd
  have p : (srt ltN l).Perm l := srt_perm
  have ho : AllOk goodN l := fun x hx => (h1 x hx).w.valid
  have hlen : (srt ltN l).length = l.length := srt_len
  simp only [List.length_nil, Nat.zero_add] at h3
  refine ⟨fun x hx => h1 x (p.subset hx), score_of (by omega) (List.all_eq_true.2 fun x hx => ho x (p.subset hx)) (sorted_srt swoN ho) ((apart_perm p).2 h2), by omega⟩
end Go.Proofs.Ytjgjcggecikdpaa
