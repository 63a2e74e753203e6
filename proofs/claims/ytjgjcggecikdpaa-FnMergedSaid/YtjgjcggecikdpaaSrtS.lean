/- Plain laws: notes of which no two are at the same place; a sorted score. Conditions: as each says. -/
import Derived.Test.YtjgjcggecikdpaaSc
set_option linter.unusedSimpArgs false
set_option linter.unusedVariables false
namespace Go.Proofs.Ytjgjcggecikdpaa
open Go.RowKit Sx
/-! ### no two at the same place -/
theorem ins_perm {x : tNote.den} : ∀ {l : List tNote.den}, (ins ltN x l).Perm (x :: l)
  | [] => .refl _
  | y :: l => by
    simp only [ins]
    split
    · exact (List.Perm.cons y ins_perm).trans (List.Perm.swap x y l)
    · exact .refl _
theorem srt_perm : ∀ {l : List tNote.den}, (srt ltN l).Perm l
  | [] => .refl _
  | x :: l => ins_perm.trans (List.Perm.cons x srt_perm)
def Apart (l : List tNote.den) : Prop := l.Pairwise fun x y => cmpN x y ≠ 0
theorem cmpN_symm {x y : tNote.den} (h : cmpN x y ≠ 0) : cmpN y x ≠ 0 := fun e => h (cmpN_zero.2 (cmpN_zero.1 e).symm)
theorem apart_perm {l l' : List tNote.den} (h : l.Perm l') : Apart l ↔ Apart l' := h.pairwise_iff cmpN_symm
theorem twin_apart {l : List tNote.den} (ho : AllOk goodN l) (hs : Srt ltN l) : twinB l = false ↔ Apart l := by
  have key : ∀ (n i : Nat), i + n = l.length → 1 ≤ i → (twinF l n i = false ↔ ∀ j, i ≤ j → j < l.length → cmpN (l.getD (j - 1) tNote.zero) (l.getD j tNote.zero) ≠ 0) := by
    intro n
    induction n with
    | zero => intro i h1 h2; simp only [twinF, true_iff]; intro j hj hl; omega
    | succ n ih =>
      intro i h1 h2
      simp only [twinF, Bool.or_eq_false_iff, decide_eq_false_iff_not]
      rw [ih (i + 1) (by omega) (by omega)]
      constructor
      · rintro ⟨g1, g2⟩ j hj hl
        rcases Nat.lt_or_ge i j with h | h
        · exact g2 j h hl
        · rw [show j = i by omega]; exact g1
      · intro g
        exact ⟨g i (by omega) (by omega), fun j hj hl => g j (by omega) hl⟩
  unfold twinB
  rcases Nat.eq_zero_or_pos l.length with h0 | h0
  · have : l = [] := List.eq_nil_of_length_eq_zero h0
    subst this
    simp [twinF, Apart]
  · rw [key (l.length - 1) 1 (by omega) (by omega)]
    unfold Apart
    rw [List.pairwise_iff_getElem]
    constructor
    · intro g i j hi hj hij h0
      have g1 := g (i + 1) (by omega) (by omega)
      rw [Nat.add_sub_cancel, getD_lt _ _ _ hi, getD_lt _ _ _ (by omega)] at g1
      rcases Nat.lt_or_ge (i + 1) j with h | h
      · have a1 := List.pairwise_iff_getElem.1 hs i (i + 1) hi (by omega) (by omega)
        have a2 := List.pairwise_iff_getElem.1 hs (i + 1) j (by omega) hj h
        have o1 := ho _ (List.getElem_mem hi)
        have o2 := ho _ (List.getElem_mem (show i + 1 < l.length by omega))
        have o3 := ho _ (List.getElem_mem hj)
        have lt1 : ltN l[i] l[i + 1] = true := by
          cases hx : ltN l[i] l[i + 1]
          · exact absurd (cmpN_zero.2 ⟨hx, a1⟩) g1
          · rfl
        have lt2 := swoN.lt_le o1 o2 o3 lt1 a2
        have := (cmpN_zero.1 h0).1
        rw [lt2] at this; simp at this
      · have : j = i + 1 := by omega
        subst this
        exact g1 h0
    · intro g j hj hl
      have := g (j - 1) j (by omega) hl (by omega)
      rw [getD_lt _ _ _ hl, getD_lt _ _ _ (by omega)]
      exact this
theorem twin_srt {l : List tNote.den} (ho : AllOk goodN l) : twinB (srt ltN l) = false ↔ Apart l :=
  (twin_apart ho.srt (sorted_srt swoN ho)).trans (apart_perm srt_perm)
theorem sortF_get {l : List tNote.den} : ∀ (n i : Nat), i + n = l.length → sortF l n i = true → ∀ j, i ≤ j → j < l.length → ltN (l.getD (j - 1) tNote.zero) (l.getD j tNote.zero) = true
  | 0, i, h, _, j, h1, h2 => by omega
  | n + 1, i, h, hs, j, h1, h2 => by
    simp only [sortF, Bool.and_eq_true, decide_eq_true_eq] at hs
    rcases Nat.lt_or_ge i j with hj | hj
    · exact sortF_get n (i + 1) (by omega) hs.2 j hj h2
    · rw [show j = i by omega, ltN_true]; exact hs.1
theorem score_srt {l : List tNote.den} (h : scoreF l = true) : AllOk goodN l ∧ Srt ltN l ∧ Apart l := by
  have hb := both_all l
  have hn := score_notes h
  simp only [scoreF, hb, Bool.and_eq_true, decide_eq_true_eq] at h
  have ho := notesOk hn.2
  rcases Nat.eq_zero_or_pos l.length with h0 | h0
  · have : l = [] := List.eq_nil_of_length_eq_zero h0
    subst this
    exact ⟨ho, List.Pairwise.nil, List.Pairwise.nil⟩
  have hg := sortF_get (l.length - 1) 1 (by omega) h.2.2
  have hlt : ∀ (n i : Nat) (hn : i + n + 1 < l.length), ltN (l[i]'(by omega)) (l[i + n + 1]) = true := by
    intro n
    induction n with
    | zero =>
      intro i hn
      have := hg (i + 1) (by omega) (by omega)
      rwa [Nat.add_sub_cancel, getD_lt _ _ _ (by omega), getD_lt _ _ _ (by omega)] at this
    | succ n ih =>
      intro i hn
      have g1 := ih i (by omega)
      have := hg (i + n + 2) (by omega) (by omega)
      rw [show i + n + 2 - 1 = i + n + 1 by omega, getD_lt _ _ _ (by omega), getD_lt _ _ _ (by omega)] at this
      exact swoN.trans (ho _ (List.getElem_mem _)) (ho _ (List.getElem_mem _)) (ho _ (List.getElem_mem _)) g1 this
  have hp : l.Pairwise fun x y => ltN x y = true := List.pairwise_iff_getElem.2 fun i j hi hj hij => by
    have := hlt (j - i - 1) i (by omega)
    simpa only [show i + (j - i - 1) + 1 = j by omega] using this
  refine ⟨ho, hp.imp_of_mem fun hx hy h => swoN.asym _ _ (ho _ hx) (ho _ hy) h, hp.imp fun h e => ?_⟩
  have := (cmpN_zero.1 e).1
  rw [h] at this; simp at this
theorem apart_mem {l : List tNote.den} (h : Apart l) {x y : tNote.den} (hx : x ∈ l) (hy : y ∈ l) (e : cmpN x y = 0) : x = y := by
  obtain ⟨i, hi, rfl⟩ := List.getElem_of_mem hx
  obtain ⟨j, hj, rfl⟩ := List.getElem_of_mem hy
  rcases Nat.lt_trichotomy i j with h1 | h1 | h1
  · exact absurd e (List.pairwise_iff_getElem.1 h i j hi hj h1)
  · subst h1; rfl
  · exact absurd e (cmpN_symm (List.pairwise_iff_getElem.1 h j i hj hi h1))
theorem srt_same {l l' : List tNote.den} (hp : l.Perm l') (ho : AllOk goodN l) (ha : Apart l) : srt ltN l = srt ltN l' := by
  have ho' : AllOk goodN l' := fun x hx => ho x (hp.symm.subset hx)
  have p1 : (srt ltN l).Perm l := srt_perm
  have p2 : (srt ltN l').Perm l' := srt_perm
  refine List.Perm.eq_of_pairwise (le := fun x y => ltN y x = false) (fun a b h1 h2 g1 g2 => ?_) (sorted_srt swoN ho) (sorted_srt swoN ho') (p1.trans (hp.trans p2.symm))
  exact apart_mem ha (p1.subset h1) (hp.symm.subset (p2.subset h2)) (cmpN_zero.2 ⟨g2, g1⟩)
end Go.Proofs.Ytjgjcggecikdpaa
