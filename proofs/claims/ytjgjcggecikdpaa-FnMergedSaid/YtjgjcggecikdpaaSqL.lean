/- Plain laws: the first of each run of notes at one place; a stable sort keeps it. Conditions: as each says. -/
import Derived.Test.YtjgjcggecikdpaaSrtS
set_option linter.unusedSimpArgs false
set_option linter.unusedVariables false
namespace Go.Proofs.Ytjgjcggecikdpaa
open Go.RowKit Sx
theorem map_stepQ {α β : Type} (f : α → β) (xs : List α) (i : Nat) (z : α) (h : i < xs.length) : (xs.drop i).map f = f (xs.getD i z) :: (xs.drop (i + 1)).map f := by
  rw [List.drop_eq_getElem_cons h, getD_lt _ _ _ h, List.map_cons]
def eqvN (x y : tNote.den) : Bool := decide (cmpN x y = 0)
/-- What is kept behind p: what is not at the place of the one before it. -/
def cptG : tNote.den → List tNote.den → List tNote.den
  | _, [] => []
  | p, z :: t => if cmpN z p = 0 then cptG z t else z :: cptG z t
theorem cptG_cons (p z : tNote.den) (t : List tNote.den) : cptG p (z :: t) = if cmpN z p = 0 then cptG z t else z :: cptG z t := rfl
def cptL : List tNote.den → List tNote.den
  | [] => []
  | z :: t => z :: cptG z t
/-- The first of each place, in the order in which they come. -/
def uniqL : List tNote.den → List tNote.den
  | [] => []
  | z :: t => z :: (uniqL t).filter fun y => !eqvN z y
theorem eqvN_iff {x y : tNote.den} : eqvN x y = true ↔ ltN x y = false ∧ ltN y x = false := by
  unfold eqvN
  rw [decide_eq_true_eq]
  exact cmpN_zero
theorem eqvN_refl {x : tNote.den} (h : goodN x) : eqvN x x = true := eqvN_iff.2 ⟨swoN.irr h, swoN.irr h⟩
theorem eqvN_symm {x y : tNote.den} : eqvN x y = eqvN y x := by
  rw [Bool.eq_iff_iff, eqvN_iff, eqvN_iff]
  exact And.comm
theorem eqvN_trans {x y z : tNote.den} (hx : goodN x) (hy : goodN y) (hz : goodN z) (h1 : eqvN x y = true) (h2 : eqvN y z = true) : eqvN x z = true := by
  rw [eqvN_iff] at *
  exact ⟨swoN.le_le hz hy hx h2.1 h1.1, swoN.le_le hx hy hz h1.2 h2.2⟩
theorem uniq_sub {l : List tNote.den} : ∀ y ∈ uniqL l, y ∈ l := by
  induction l with
  | nil => intro y h; simp [uniqL] at h
  | cons z t ih =>
    intro y h
    simp only [uniqL, List.mem_cons, List.mem_filter] at h
    rcases h with h | h
    · simp [h]
    · exact List.mem_cons_of_mem _ (ih y h.1)
theorem uniq_mem {l : List tNote.den} (ho : AllOk goodN l) {y : tNote.den} (hy : goodN y) : y ∈ uniqL l ↔ (l.filter (eqvN y)).head? = some y := by
  induction l with
  | nil => simp [uniqL]
  | cons z t ih =>
    have hz : goodN z := ho z (by simp)
    have ih := ih (fun x hx => ho x (by simp [hx]))
    simp only [uniqL, List.mem_cons, List.mem_filter, List.filter_cons, ih]
    by_cases h : eqvN y z = true
    · have h' : eqvN z y = true := by rw [eqvN_symm]; exact h
      simp only [h, h', if_true, List.head?_cons, Option.some.injEq, Bool.not_true, Bool.false_eq_true, and_false, or_false]
      exact eq_comm
    · have h' : eqvN z y = false := by rw [eqvN_symm]; simpa using h
      have hne : y ≠ z := fun e => h (by rw [e]; exact eqvN_refl hz)
      simp only [h, h', Bool.false_eq_true, if_false, Bool.not_false, and_true, hne, false_or]
theorem uniq_apart {l : List tNote.den} (ho : AllOk goodN l) : Apart (uniqL l) := by
  induction l with
  | nil => exact List.Pairwise.nil
  | cons z t ih =>
    have ih := ih (fun x hx => ho x (by simp [hx]))
    refine List.Pairwise.cons (fun y hy e => ?_) (ih.sublist List.filter_sublist)
    simp only [List.mem_filter, Bool.not_eq_true'] at hy
    have : eqvN z y = true := by unfold eqvN; simpa using e
    rw [hy.2] at this; simp at this
theorem cpt_mem : ∀ {l : List tNote.den} {p : tNote.den}, AllOk goodN (p :: l) → Srt ltN (p :: l) → ∀ {y : tNote.den}, goodN y → (y ∈ cptG p l ↔ eqvN y p = false ∧ (l.filter (eqvN y)).head? = some y)
  | [], p, _, _, y, _ => by simp [cptG]
  | z :: t, p, ho, hs, y, hy => by
    have hp : goodN p := ho p (by simp)
    have hz : goodN z := ho z (by simp)
    have ot : AllOk goodN (z :: t) := fun x hx => ho x (by simp at hx; rcases hx with h | h <;> simp [h])
    have st : Srt ltN (z :: t) := (List.pairwise_cons.1 hs).2
    have hpz : ltN z p = false := (List.pairwise_cons.1 hs).1 z (by simp)
    have ih := cpt_mem ot st hy
    simp only [cptG, List.filter_cons]
    by_cases h : cmpN z p = 0
    · have hzp : eqvN z p = true := by unfold eqvN; simpa using h
      rw [if_pos h, ih]
      have e : eqvN y p = eqvN y z := by
        rw [Bool.eq_iff_iff]
        exact ⟨fun g => eqvN_trans hy hp hz g (by rw [eqvN_symm]; exact hzp), fun g => eqvN_trans hy hz hp g hzp⟩
      rw [e]
      constructor
      · rintro ⟨h1, h2⟩
        simp only [h1, Bool.false_eq_true, if_false]
        exact ⟨trivial, h2⟩
      · rintro ⟨h1, h2⟩
        simp only [h1, Bool.false_eq_true, if_false] at h2
        exact ⟨h1, h2⟩
    · have hzp : eqvN z p = false := by unfold eqvN; simpa using h
      have hlt : ltN p z = true := by
        cases hc : ltN p z
        · exact absurd (cmpN_zero.2 ⟨hpz, hc⟩) h
        · rfl
      rw [if_neg h, List.mem_cons, ih]
      by_cases hyz : eqvN y z = true
      · simp only [hyz, if_true, List.head?_cons, Option.some.injEq, Bool.true_eq_false, false_and, or_false]
        constructor
        · intro e; subst e; exact ⟨hzp, rfl⟩
        · rintro ⟨_, e⟩; exact e.symm
      · have hne : y ≠ z := fun e => hyz (by rw [e]; exact eqvN_refl hz)
        simp only [hyz, Bool.false_eq_true, if_false, hne, false_or, true_and]
        constructor
        · intro g
          refine ⟨?_, g⟩
          have hm : y ∈ t := (List.mem_filter.1 (List.mem_of_mem_head? g)).1
          have hzy : ltN y z = false := (List.pairwise_cons.1 st).1 y hm
          cases hc : eqvN y p
          · rfl
          · have h3 := (eqvN_iff.1 hc).2
            have h4 := swoN.lt_le hp hz hy hlt hzy
            rw [h4] at h3; simp at h3
        · rintro ⟨_, g⟩; exact g
theorem cpt_strict : ∀ {l : List tNote.den} {p : tNote.den}, AllOk goodN (p :: l) → Srt ltN (p :: l) → Srt ltN (p :: cptG p l) ∧ Apart (p :: cptG p l)
  | [], p, _, _ => ⟨List.pairwise_singleton _ _, List.pairwise_singleton _ _⟩
  | z :: t, p, ho, hs => by
    have hp : goodN p := ho p (by simp)
    have ot : AllOk goodN (z :: t) := fun x hx => ho x (by simp at hx; rcases hx with h | h <;> simp [h])
    have st : Srt ltN (z :: t) := (List.pairwise_cons.1 hs).2
    have ih := cpt_strict ot st
    have hh : ∀ y ∈ cptG p (z :: t), ltN y p = false ∧ cmpN p y ≠ 0 := fun y hy => by
      have hsub : ∀ {l : List tNote.den} {p y : tNote.den}, y ∈ cptG p l → y ∈ l := by
        intro l
        induction l with
        | nil => intro p y h; simp [cptG] at h
        | cons a l ih =>
          intro p y h
          unfold cptG at h
          split at h
          · exact List.mem_cons_of_mem _ (ih h)
          · rcases List.mem_cons.1 h with h | h
            · simp [h]
            · exact List.mem_cons_of_mem _ (ih h)
      have hm := hsub hy
      have gy : goodN y := ot y hm
      have := (cpt_mem ho hs gy).1 hy
      refine ⟨(List.pairwise_cons.1 hs).1 y hm, fun e => ?_⟩
      have e2 : eqvN y p = true := by rw [eqvN_symm]; unfold eqvN; simpa using e
      rw [this.1] at e2; simp at e2
    have hin : Srt ltN (cptG p (z :: t)) ∧ Apart (cptG p (z :: t)) := by
      unfold cptG
      split
      · exact ⟨(List.pairwise_cons.1 ih.1).2, (List.pairwise_cons.1 ih.2).2⟩
      · exact ih
    exact ⟨List.pairwise_cons.2 ⟨fun y hy => (hh y hy).1, hin.1⟩, List.pairwise_cons.2 ⟨fun y hy => (hh y hy).2, hin.2⟩⟩
theorem cptL_mem {s : List tNote.den} (ho : AllOk goodN s) (hs : Srt ltN s) {y : tNote.den} (hy : goodN y) : y ∈ cptL s ↔ (s.filter (eqvN y)).head? = some y := by
  cases s with
  | nil => simp [cptL]
  | cons z t =>
    have hz : goodN z := ho z (by simp)
    simp only [cptL, List.mem_cons, List.filter_cons, cpt_mem ho hs hy]
    by_cases h : eqvN y z = true
    · simp only [h, if_true, List.head?_cons, Option.some.injEq, Bool.true_eq_false, false_and, or_false]
      exact eq_comm
    · have hne : y ≠ z := fun e => h (by rw [e]; exact eqvN_refl hz)
      have h' : eqvN y z = false := by simpa using h
      simp only [h', Bool.false_eq_true, if_false, hne, false_or, true_and]
theorem cptL_strict {s : List tNote.den} (ho : AllOk goodN s) (hs : Srt ltN s) : Srt ltN (cptL s) ∧ Apart (cptL s) := by
  cases s with
  | nil => exact ⟨List.Pairwise.nil, List.Pairwise.nil⟩
  | cons z t => exact cpt_strict ho hs
theorem cptG_sub : ∀ {l : List tNote.den} {p y : tNote.den}, y ∈ cptG p l → y ∈ l := by
  intro l
  induction l with
  | nil => intro p y h; simp [cptG] at h
  | cons a l ih =>
    intro p y h
    unfold cptG at h
    split at h
    · exact List.mem_cons_of_mem _ (ih h)
    · rcases List.mem_cons.1 h with h | h
      · simp [h]
      · exact List.mem_cons_of_mem _ (ih h)
theorem cptL_sub {s : List tNote.den} {y : tNote.den} (h : y ∈ cptL s) : y ∈ s := by
  cases s with
  | nil => exact h
  | cons z t =>
    simp only [cptL, List.mem_cons] at h
    rcases h with h | h
    · simp [h]
    · exact List.mem_cons_of_mem _ (cptG_sub h)
/-- A stable sort keeps the order of those at one place. -/
theorem ins_filter {x c : tNote.den} (hx : goodN x) (hc : goodN c) : ∀ {l : List tNote.den}, AllOk goodN l → Srt ltN l → (ins ltN x l).filter (eqvN c) = if eqvN c x = true then x :: l.filter (eqvN c) else l.filter (eqvN c)
  | [], _, _ => by
    simp only [ins, List.filter_cons, List.filter_nil]
  | y :: l, ho, hs => by
    have hy : goodN y := ho y (by simp)
    have ih := ins_filter hx hc (l := l) (fun z hz => ho z (by simp [hz])) (List.pairwise_cons.1 hs).2
    simp only [ins]
    by_cases h : ltN y x = true
    · rw [if_pos h, List.filter_cons, ih]
      by_cases h1 : eqvN c x = true
      · have h2 : eqvN c y = false := by
          cases hcy : eqvN c y
          · rfl
          · have := eqvN_trans hy hc hx (by rw [eqvN_symm]; exact hcy) h1
            have := (eqvN_iff.1 this).1
            rw [h] at this; simp at this
        simp [h1, h2]
      · simp [h1, List.filter_cons]
    · rw [if_neg h]
      simp only [List.filter_cons]
theorem srt_filter {c : tNote.den} (hc : goodN c) : ∀ {l : List tNote.den}, AllOk goodN l → (srt ltN l).filter (eqvN c) = l.filter (eqvN c)
  | [], _ => rfl
  | x :: l, ho => by
    have hx : goodN x := ho x (by simp)
    have ol : AllOk goodN l := fun z hz => ho z (by simp [hz])
    show (ins ltN x (srt ltN l)).filter (eqvN c) = _
    rw [ins_filter hx hc ol.srt (sorted_srt swoN ol), srt_filter hc ol, List.filter_cons]
/-- Sorting the first of each place, or keeping the first of each place of the sorted ones. -/
theorem cpt_srt {l : List tNote.den} (ho : AllOk goodN l) : srt ltN (uniqL l) = cptL (srt ltN l) := by
  have ou : AllOk goodN (uniqL l) := fun x hx => ho x (uniq_sub x hx)
  have os := ho.srt (lt := ltN)
  have ss := sorted_srt swoN ho
  obtain ⟨s1, s2⟩ := cptL_strict os ss
  have p1 : (srt ltN (uniqL l)).Perm (uniqL l) := srt_perm
  have a1 : Apart (srt ltN (uniqL l)) := (apart_perm p1).2 (uniq_apart ho)
  have memc : ∀ y, y ∈ srt ltN (uniqL l) ↔ y ∈ cptL (srt ltN l) := fun y => by
    constructor
    · intro h
      have h1 := p1.subset h
      have gy := ou y h1
      rw [cptL_mem os ss gy, srt_filter gy ho]
      exact (uniq_mem ho gy).1 h1
    · intro h
      have gy := os y (cptL_sub h)
      rw [cptL_mem os ss gy, srt_filter gy ho] at h
      exact p1.symm.subset ((uniq_mem ho gy).2 h)
  have nd : ∀ {l : List tNote.den}, AllOk goodN l → Apart l → l.Nodup := fun ho ha => ha.imp_of_mem fun hx hy h e => h (by rw [← e]; exact cmpN_zero.2 ⟨swoN.irr (ho _ hx), swoN.irr (ho _ hx)⟩)
  have oc : AllOk goodN (cptL (srt ltN l)) := fun x hx => os x (cptL_sub hx)
  have hp : (srt ltN (uniqL l)).Perm (cptL (srt ltN l)) := (List.perm_ext_iff_of_nodup (nd ou.srt a1) (nd oc s2)).2 memc
  have e := srt_same hp ou.srt a1
  rw [srt_id (sorted_srt swoN ou), srt_id s1] at e
  exact e
def addQ (l : List tNote.den) (n : tNote.den) : List tNote.den := if l.any (fun x => decide (cmpN x n = 0)) = true then l else l ++ [n]
theorem addQ_ok {l : List tNote.den} {n : tNote.den} (hl : AllOk goodN l) (hn : goodN n) : AllOk goodN (addQ l n) ∧ (addQ l n).length ≤ l.length + 1 := by
  unfold addQ
  split
  · exact ⟨hl, by omega⟩
  · refine ⟨fun x hx => ?_, by simp⟩
    rcases List.mem_append.1 hx with h | h
    · exact hl x h
    · rw [List.mem_singleton] at h; rw [h]; exact hn
theorem fold_uniq : ∀ (l acc : List tNote.den), AllOk goodN l → AllOk goodN acc → l.foldl addQ acc = acc ++ (uniqL l).filter fun y => !acc.any fun x => eqvN x y
  | [], acc, _, _ => by simp [uniqL]
  | z :: t, acc, ho, ha => by
    have hz : goodN z := ho z (by simp)
    have ot : AllOk goodN t := fun x hx => ho x (by simp [hx])
    have ou : AllOk goodN (uniqL t) := fun x hx => ot x (uniq_sub x hx)
    rw [List.foldl_cons, fold_uniq t (addQ acc z) ot (addQ_ok ha hz).1]
    have e : addQ acc z = if acc.any (fun x => eqvN x z) = true then acc else acc ++ [z] := rfl
    rw [e]
    simp only [uniqL, List.filter_cons, List.filter_filter]
    by_cases h : acc.any (fun x => eqvN x z) = true
    · simp only [h, if_true, Bool.not_true, Bool.false_eq_true, if_false]
      congr 1
      refine List.filter_congr fun y hy => ?_
      have gy := ou y hy
      cases h1 : acc.any fun x => eqvN x y
      · have : eqvN z y = false := by
          cases hc : eqvN z y
          · rfl
          · obtain ⟨x, hx, hxz⟩ := List.any_eq_true.1 h
            have : acc.any (fun x => eqvN x y) = true := List.any_eq_true.2 ⟨x, hx, eqvN_trans (ha x hx) hz gy hxz hc⟩
            rw [h1] at this; simp at this
        rw [this]; rfl
      · simp
    · have h' : acc.any (fun x => eqvN x z) = false := by simpa using h
      simp only [h', Bool.false_eq_true, if_false, Bool.not_false, if_true]
      rw [List.append_assoc]
      congr 1
      show z :: _ = z :: _
      congr 1
      refine List.filter_congr fun y hy => ?_
      rw [List.any_append]
      simp [Bool.and_comm]
theorem fold_good : ∀ (l acc : List tNote.den), AllOk goodN l → AllOk goodN acc → AllOk goodN (l.foldl addQ acc)
  | [], _, _, h => h
  | z :: t, acc, ho, ha => by
    rw [List.foldl_cons]
    exact fold_good t _ (fun x hx => ho x (by simp [hx])) (addQ_ok ha (ho z (by simp))).1
theorem fold_len : ∀ (l acc : List tNote.den), (l.foldl addQ acc).length ≤ acc.length + l.length
  | [], _ => by simp
  | z :: t, acc => by
    rw [List.foldl_cons]
    have h1 := fold_len t (addQ acc z)
    have h2 : (addQ acc z).length ≤ acc.length + 1 := by
      unfold addQ
      split <;> simp
    simp only [List.length_cons]
    omega
theorem fold_srt {l : List tNote.den} (ho : AllOk goodN l) : srt ltN (l.foldl addQ []) = cptL (srt ltN l) := by
  rw [fold_uniq l [] ho (fun x hx => absurd hx (by simp)), ← cpt_srt ho, List.nil_append]
  congr 1
  exact List.filter_eq_self.2 fun _ _ => rfl
/-! ### the first of each run, moved together in place -/
def cwGo (off : Nat) : Nat → Nat → List tNote.den → Nat → List tNote.den × Nat
  | 0, _, xs, k => (xs, k)
  | m + 1, j, xs, k => if cmpN (xs.getD (off + j) tNote.zero) (xs.getD (off + j - 1) tNote.zero) = 0 then cwGo off m (j + 1) xs k else cwGo off m (j + 1) (xs.set k (xs.getD (off + j) tNote.zero)) (k + 1)
theorem cw_spec (off : Nat) : ∀ (m j : Nat) (xs : List tNote.den) (k : Nat), off + j + m = xs.length → 1 ≤ j → k ≤ off + j - 1 → 
    (cwGo off m j xs k).1.length = xs.length ∧ k ≤ (cwGo off m j xs k).2 ∧ (cwGo off m j xs k).2 ≤ k + m ∧ (cwGo off m j xs k).1.take (cwGo off m j xs k).2 = xs.take k ++ cptG (xs.getD (off + j - 1) tNote.zero) (xs.drop (off + j))
  | 0, j, xs, k, h, _, hk => by
    refine ⟨rfl, Nat.le_refl _, Nat.le_refl _, ?_⟩
    rw [List.drop_eq_nil_of_le (by omega)]
    simp [cwGo, cptG]
  | m + 1, j, xs, k, h, hj, hk => by
    have hd : xs.drop (off + j) = xs.getD (off + j) tNote.zero :: xs.drop (off + (j + 1)) := by
      rw [List.drop_eq_getElem_cons (by omega), getD_lt _ _ _ (by omega)]
      rfl
    unfold cwGo
    rw [hd, cptG_cons]
    by_cases hc : cmpN (xs.getD (off + j) tNote.zero) (xs.getD (off + j - 1) tNote.zero) = 0
    · rw [if_pos hc, if_pos hc]
      have ih := cw_spec off m (j + 1) xs k (by omega) (by omega) (by omega)
      rw [show off + (j + 1) - 1 = off + j by omega] at ih
      exact ⟨ih.1, ih.2.1, by omega, ih.2.2.2⟩
    · rw [if_neg hc, if_neg hc]
      have hl : (xs.set k (xs.getD (off + j) tNote.zero)).length = xs.length := by simp
      have ih := cw_spec off m (j + 1) (xs.set k (xs.getD (off + j) tNote.zero)) (k + 1) (by rw [hl]; omega) (by omega) (by omega)
      rw [show off + (j + 1) - 1 = off + j by omega, hl] at ih
      have e1 : (xs.set k (xs.getD (off + j) tNote.zero)).getD (off + j) tNote.zero = xs.getD (off + j) tNote.zero := by
        rw [getD_lt _ _ _ (by simp; omega), List.getElem_set_ne (by omega)]
        exact (getD_lt _ _ _ (by omega)).symm
      have e2 : (xs.set k (xs.getD (off + j) tNote.zero)).drop (off + (j + 1)) = xs.drop (off + (j + 1)) := List.drop_set_of_lt (by omega)
      have e3 : (xs.set k (xs.getD (off + j) tNote.zero)).take (k + 1) = xs.take k ++ [xs.getD (off + j) tNote.zero] := by
        rw [List.take_succ_eq_append_getElem (by rw [hl]; omega)]
        simp [List.take_set]
        rw [List.set_eq_of_length_le (by simp; omega)]
      rw [e1, e2, e3] at ih
      refine ⟨ih.1, by omega, by omega, ?_⟩
      rw [ih.2.2.2]
      simp
/-- As far as no two neighbours are at one place, all are kept. -/
theorem cptL_at : ∀ (k : Nat) (xs : List tNote.den), 1 ≤ k → k < xs.length → (∀ j, 1 ≤ j → j < k → cmpN (xs.getD j tNote.zero) (xs.getD (j - 1) tNote.zero) ≠ 0) → cptL xs = xs.take k ++ cptG (xs.getD (k - 1) tNote.zero) (xs.drop k) := by
  intro k
  induction k with
  | zero => intro xs h; omega
  | succ k ih =>
    intro xs h1 h2 h3
    rcases Nat.eq_zero_or_pos k with h0 | h0
    · subst h0
      cases xs with
      | nil => simp at h2
      | cons z t => simp [cptL]
    · rw [ih xs h0 (by omega) (fun j g1 g2 => h3 j g1 (by omega))]
      have hd : xs.drop k = xs.getD k tNote.zero :: xs.drop (k + 1) := by
        rw [List.drop_eq_getElem_cons (by omega), getD_lt _ _ _ (by omega)]
      rw [hd, cptG_cons, if_neg (h3 k h0 (by omega)), List.take_succ_eq_append_getElem (by omega), ← getD_lt _ _ tNote.zero (by omega)]
      simp
theorem cptL_all : ∀ (xs : List tNote.den), (∀ j, 1 ≤ j → j < xs.length → cmpN (xs.getD j tNote.zero) (xs.getD (j - 1) tNote.zero) ≠ 0) → cptL xs = xs := by
  intro xs h
  rcases Nat.lt_or_ge xs.length 2 with h1 | h1
  · match xs, h1 with
    | [], _ => rfl
    | [z], _ => rfl
  · rw [cptL_at (xs.length - 1) xs (by omega) (by omega) (fun j g1 g2 => h j g1 (by omega))]
    have hd : xs.drop (xs.length - 1) = [xs.getD (xs.length - 1) tNote.zero] := by
      rw [List.drop_eq_getElem_cons (by omega), getD_lt _ _ _ (by omega), List.drop_eq_nil_of_le (by omega)]
    have := h (xs.length - 1) (by omega) (by omega)
    rw [hd, cptG_cons, if_neg this]
    simp only [cptG]
    rw [← hd, List.take_append_drop]
theorem cptL_len (xs : List tNote.den) : (cptL xs).length ≤ xs.length := by
  have hg : ∀ (l : List tNote.den) (p : tNote.den), (cptG p l).length ≤ l.length := by
    intro l
    induction l with
    | nil => intro p; simp [cptG]
    | cons z t ih =>
      intro p
      unfold cptG
      split
      · have := ih z; simp; omega
      · have := ih z; simp; omega
  cases xs with
  | nil => simp [cptL]
  | cons z t => have := hg t z; simp [cptL]; omega
theorem weakL_part (x : AV) (xs ys : List AV) (a b c d : Nat) : weakL (x :: xs) (.part a b c d :: ys) = (x = .part a b c d ∧ weakL xs ys) := rfl
/-- Where two neighbours are at one place, from k on; the row and its length then. -/
def twH (l : List tNote.den) : Nat → Nat → Bool
  | 0, _ => false
  | m + 1, k => decide (cmpN (l.getD k tNote.zero) (l.getD (k - 1) tNote.zero) = 0) || twH l m (k + 1)
def cutR (l : List tNote.den) (k : Nat) : List tNote.den × Nat := (clearL (cwGo k (l.length - k - 1) 1 l k).1 (cwGo k (l.length - k - 1) 1 l k).2 (l.length - (cwGo k (l.length - k - 1) 1 l k).2) tNote.zero, (cwGo k (l.length - k - 1) 1 l k).2)
def twR (l : List tNote.den) : Nat → Nat → List tNote.den × Nat
  | 0, k => (l, k)
  | m + 1, k => if cmpN (l.getD k tNote.zero) (l.getD (k - 1) tNote.zero) = 0 then cutR l k else twR l m (k + 1)
theorem cutR_spec {l : List tNote.den} {k : Nat} (h1 : 1 ≤ k) (h2 : k < l.length) (hc : cmpN (l.getD k tNote.zero) (l.getD (k - 1) tNote.zero) = 0) (h3 : ∀ j, 1 ≤ j → j < k → cmpN (l.getD j tNote.zero) (l.getD (j - 1) tNote.zero) ≠ 0) :
    (cutR l k).1.length = l.length ∧ 1 ≤ (cutR l k).2 ∧ (cutR l k).2 ≤ l.length ∧ (cutR l k).1.take (cutR l k).2 = cptL l := by
  have hw := cw_spec k (l.length - k - 1) 1 l k (by omega) (Nat.le_refl _) (by omega)
  have hp := cptL_at k l h1 h2 h3
  have hd : l.drop k = l.getD k tNote.zero :: l.drop (k + 1) := by
    rw [List.drop_eq_getElem_cons h2, getD_lt _ _ _ h2]
  rw [hd, cptG_cons, if_pos hc] at hp
  rw [Nat.add_sub_cancel] at hw
  unfold cutR
  generalize cwGo k (l.length - k - 1) 1 l k = W at *
  obtain ⟨w1, w2, w3, w4⟩ := hw
  refine ⟨by simp [clearL]; omega, by simp only; omega, by simp only; omega, ?_⟩
  simp only [clearL]
  rw [List.append_assoc, List.take_append_of_le_length (by simp; omega), List.take_take, Nat.min_self, w4, hp]
theorem tw_spec {l : List tNote.den} : ∀ (m k : Nat), k + m = l.length → 1 ≤ k → (∀ j, 1 ≤ j → j < k → cmpN (l.getD j tNote.zero) (l.getD (j - 1) tNote.zero) ≠ 0) →
    (twH l m k = true → (twR l m k).1.length = l.length ∧ 1 ≤ (twR l m k).2 ∧ (twR l m k).2 ≤ l.length ∧ (twR l m k).1.take (twR l m k).2 = cptL l) ∧ (twH l m k = false → cptL l = l)
  | 0, k, h, h1, h3 => by
    refine ⟨fun h => by simp [twH] at h, fun _ => cptL_all l fun j g1 g2 => h3 j g1 (by omega)⟩
  | m + 1, k, h, h1, h3 => by
    unfold twH twR
    by_cases hc : cmpN (l.getD k tNote.zero) (l.getD (k - 1) tNote.zero) = 0
    · rw [if_pos hc, decide_eq_true hc, Bool.true_or]
      exact ⟨fun _ => cutR_spec h1 (by omega) hc h3, fun h => by simp at h⟩
    · rw [if_neg hc, decide_eq_false hc, Bool.false_or]
      exact tw_spec m (k + 1) (by omega) (by omega) fun j g1 g2 => by
        rcases Nat.lt_or_ge j k with g | g
        · exact h3 j g1 g
        · rw [show j = k by omega]; exact hc
theorem tw_step (l : List tNote.den) (k : Nat) (h : k < l.length) : twH l (l.length - k) k = (decide (cmpN (l.getD k tNote.zero) (l.getD (k - 1) tNote.zero) = 0) || twH l (l.length - (k + 1)) (k + 1)) ∧ twR l (l.length - k) k = if cmpN (l.getD k tNote.zero) (l.getD (k - 1) tNote.zero) = 0 then cutR l k else twR l (l.length - (k + 1)) (k + 1) := by
  rw [show l.length - k = (l.length - (k + 1)) + 1 by omega]
  exact ⟨rfl, rfl⟩
theorem cw_step (off n j : Nat) (l : List tNote.den) (k : Nat) (h : j < n) : cwGo off (n - j) j l k = if cmpN (l.getD (off + j) tNote.zero) (l.getD (off + j - 1) tNote.zero) = 0 then cwGo off (n - (j + 1)) (j + 1) l k else cwGo off (n - (j + 1)) (j + 1) (l.set k (l.getD (off + j) tNote.zero)) (k + 1) := by
  rw [show n - j = (n - (j + 1)) + 1 by omega]
  rfl
theorem cw_good (off : Nat) : ∀ (m j : Nat) (xs : List tNote.den) (k : Nat), AllOk goodN xs → off + j + m ≤ xs.length → AllOk goodN (cwGo off m j xs k).1
  | 0, _, _, _, h, _ => h
  | m + 1, j, xs, k, h, hl => by
    unfold cwGo
    split
    · exact cw_good off m (j + 1) xs k h (by omega)
    · refine cw_good off m (j + 1) _ (k + 1) (fun x hx => ?_) (by simp; omega)
      rcases List.mem_or_eq_of_mem_set hx with h1 | h1
      · exact h x h1
      · rw [h1]; exact allOk_get h tNote.zero (by omega)
end Go.Proofs.Ytjgjcggecikdpaa
