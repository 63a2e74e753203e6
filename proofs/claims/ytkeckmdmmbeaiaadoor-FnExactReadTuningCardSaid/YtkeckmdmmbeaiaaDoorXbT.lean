/- Plain laws: fractions and tunings read back from their texts. Conditions: as each says. -/
import Derived.Test.YtkeckmdmmbeaiaaDoorXaL
import Derived.Test.YtkeckmdmmbeaiaaDoorUc
set_option linter.unusedSimpArgs false
set_option linter.unusedVariables false
namespace Go.Proofs.YtkeckmdmmbeaiaaDoor
open Go.RowKit Sx
/-! ### fractions -/
def frOf (s : Bs) (n d : Int × Bool) : (Int × Int) × Bool := if n.2 = true ∧ d.2 = true ∧ okF n.1 d.1 = true ∧ fracT (n.1, d.1) = s then ((n.1, d.1), true) else ((0, 0), false)
def frI (s : Bs) : (Int × Int) × Bool := frOf s (readD (cutC 47 s).1) (if (cutC 47 s).2.2 = true then readD (cutC 47 s).2.1 else (1, true))
def frS (s : Bs) : (Int × Int) × Bool := frOf s (intF (cutC 47 s).1) (if (cutC 47 s).2.2 = true then intF (cutC 47 s).2.1 else (1, true))
theorem frOf_no {s : Bs} {n d : Int × Bool} (h : (frOf s n d).2 = false) : frOf s n d = ((0, 0), false) := by
  unfold frOf at h ⊢
  split
  · rename_i hc; rw [if_pos hc] at h; simp at h
  · rfl
theorem frOf_ok {s : Bs} {n d : Int × Bool} (h : (frOf s n d).2 = true) : okF (frOf s n d).1.1 (frOf s n d).1.2 = true ∧ fracT (frOf s n d).1 = s := by
  unfold frOf at h ⊢
  split
  · rename_i hc; exact ⟨hc.2.2.1, hc.2.2.2⟩
  · rename_i hc; rw [if_neg hc] at h; simp at h
theorem fr_cut {x : Int × Int} : cutC 47 (fracT x) = if x.2 = 1 then (decT x.1, [], false) else (decT x.1, decT x.2, true) := by
  have hn := decT_no x.1 47 (.inr (.inl rfl))
  unfold fracT
  split
  · exact cutC_miss _ hn
  · rw [List.append_assoc, List.singleton_append]; exact cutC_hit _ _ hn
theorem fr_of {x : Int × Int} (h : okF x.1 x.2 = true) : frI (fracT x) = (x, true) ∧ frS (fracT x) = (x, true) := by
  have hb := okF_bd h
  have r1 := readD_of (n := x.1) ⟨by omega, by omega⟩
  have r2 := readD_of (n := x.2) ⟨by omega, by omega⟩
  have i1 := intF_of (n := x.1) ⟨by omega, by omega⟩
  have i2 := intF_of (n := x.2) ⟨by omega, by omega⟩
  obtain ⟨a, b⟩ := x
  simp only at *
  unfold frI frS
  rw [fr_cut]
  by_cases hd : b = 1
  · subst hd
    simp only [if_true, Bool.false_eq_true, if_false, r1, i1]
    unfold frOf
    rw [if_pos ⟨rfl, rfl, h, rfl⟩]
    exact ⟨rfl, rfl⟩
  · simp only [hd, if_false, if_true, r1, r2, i1, i2]
    unfold frOf
    rw [if_pos ⟨rfl, rfl, h, rfl⟩]
    exact ⟨rfl, rfl⟩
theorem fr_eq (s : Bs) : frS s = frI s := by
  refine reader_eq (T := fracT) (V := fun x => okF x.1 x.2 = true) (s := s) (z := (0, 0)) frOf_no frOf_no frOf_ok frOf_ok ?_ ?_
  · rintro x hx rfl; exact (fr_of hx).2
  · rintro x hx rfl; exact (fr_of hx).1
theorem frI_cases (s : Bs) : frI s = ((0, 0), false) ∨ ∃ x, frI s = (x, true) ∧ okF x.1 x.2 = true ∧ fracT x = s := by
  cases h : (frI s).2
  · exact .inl (frOf_no h)
  · have := frOf_ok h
    exact .inr ⟨(frI s).1, by rw [← h], this.1, this.2⟩
theorem fracT_no {x : Int × Int} (c : UInt8) (h : c.toNat < 45 ∨ 57 < c.toNat) : c ∉ fracT x := by
  have h1 := decT_no x.1 c (h.elim .inl fun h => .inr (.inr h))
  have h2 := decT_no x.2 c (h.elim .inl fun h => .inr (.inr h))
  have h3 : c ≠ 47 := by rintro rfl; simp at h
  unfold fracT
  split
  · exact h1
  · simp [h1, h2, h3]
theorem fracT_ne (x : Int × Int) : fracT x ≠ [] := by
  have h1 := decT_ne x.1
  unfold fracT
  split
  · exact h1
  · simp [h1]
/-! ### all of a row -/
def allM {α : Type} (f : Bs → Option α) : List Bs → Option (List α)
  | [] => some []
  | w :: ws => match f w with
    | some x => match allM f ws with
      | some l => some (x :: l)
      | none => none
    | none => none
theorem allM_at {α : Type} (f : Bs → Option α) (ws : List Bs) (i : Nat) (h : i < ws.length) : allM f (ws.drop i) = match f (ws.getD i []) with
    | some x => match allM f (ws.drop (i + 1)) with
      | some l => some (x :: l)
      | none => none
    | none => none := by
  rw [List.drop_eq_getElem_cons h, getD_lt _ _ _ h, allM]
theorem allM_of {α : Type} {f : Bs → Option α} {T : α → Bs} : ∀ (l : List α), (∀ x ∈ l, f (T x) = some x) → allM f (l.map T) = some l
  | [], _ => rfl
  | x :: l, h => by
    rw [List.map_cons, allM, h x List.mem_cons_self]
    simp only
    rw [allM_of l fun y hy => h y (List.mem_cons_of_mem _ hy)]
theorem allM_to {α : Type} {f : Bs → Option α} {T : α → Bs} (hf : ∀ w x, f w = some x → T x = w) : ∀ (ws : List Bs) (l : List α), allM f ws = some l → l.map T = ws
  | [], l, h => by simp only [allM, Option.some.injEq] at h; subst h; rfl
  | w :: ws, l, h => by
    rw [allM] at h
    split at h
    · rename_i x hx
      split at h
      · rename_i l' hl
        simp only [Option.some.injEq] at h
        subst h
        rw [List.map_cons, hf w x hx, allM_to hf ws l' hl]
      · simp at h
    · simp at h
theorem allM_len {α : Type} {f : Bs → Option α} : ∀ (ws : List Bs) (l : List α), allM f ws = some l → l.length = ws.length
  | [], l, h => by simp only [allM, Option.some.injEq] at h; subst h; rfl
  | w :: ws, l, h => by
    rw [allM] at h
    split at h
    · split at h
      · rename_i l' hl
        simp only [Option.some.injEq] at h
        subst h
        simp [allM_len ws l' hl]
      · simp at h
    · simp at h
/-! ### tunings -/
def frO (w : Bs) : Option (Int × Int) := if (frI w).2 = true then some (frI w).1 else none
theorem frO_of {x : Int × Int} (h : okF x.1 x.2 = true) : frO (fracT x) = some x := by
  unfold frO; rw [(fr_of h).1]; rfl
theorem frO_to (w : Bs) (x : Int × Int) (h : frO w = some x) : fracT x = w := by
  unfold frO at h
  split at h
  · rename_i hc
    simp only [Option.some.injEq] at h
    rw [← h]; exact (frOf_ok hc).2
  · simp at h
def tuneOf (l : List (Int × Int)) : tTuning.den := (atF l 0, atF l 1, l.drop 2)
def tnOf (s : Bs) (o : Option (List (Int × Int))) : tTuning.den × Bool := match o with
  | some l => if 3 ≤ l.length ∧ tuneF (tuneOf l) = true ∧ tuneT (tuneOf l) = s then (tuneOf l, true) else (((0, 0), (0, 0), []), false)
  | none => (((0, 0), (0, 0), []), false)
def tnI (s : Bs) : tTuning.den × Bool := tnOf s (allM frO (wordsF s))
def tnS (s : Bs) : tTuning.den × Bool := if 3 ≤ (splitC 32 s).length ∧ (splitC 32 s).length ≤ 26 then (match allM frO (splitC 32 s) with
  | some l => if tuneF (tuneOf l) = true then (tuneOf l, true) else (((0, 0), (0, 0), []), false)
  | none => (((0, 0), (0, 0), []), false)) else (((0, 0), (0, 0), []), false)
theorem join_flat : ∀ (w : Bs) (ws : List Bs), Go.Lib.join (w :: ws) [32] = w ++ ws.flatMap fun w => [32] ++ w
  | w, [] => by rw [join_one]; simp
  | w, v :: vs => by rw [join_cons _ _ _ (by simp), join_flat v vs]; simp
theorem tuneT_join (b o : Int × Int) (l : List (Int × Int)) : tuneT (b, o, l) = Go.Lib.join ((b :: o :: l).map fracT) [32] := by
  unfold tuneT ratsT
  rw [List.map_cons, List.map_cons, join_cons _ _ _ (by simp), join_flat]
  simp only [List.append_assoc, List.flatMap_map]
theorem tune_l {l : List (Int × Int)} (h : 2 ≤ l.length) : l = atF l 0 :: atF l 1 :: l.drop 2 := by
  match l, h with
  | a :: b :: r, _ => rfl
theorem tuneOf_cons (b o : Int × Int) (l : List (Int × Int)) : tuneOf (b :: o :: l) = (b, o, l) := rfl
theorem tn_words {x : tTuning.den} (h : tuneF x = true) : wordsF (tuneT x) = (x.1 :: x.2.1 :: x.2.2).map fracT ∧ splitC 32 (tuneT x) = (x.1 :: x.2.1 :: x.2.2).map fracT := by
  obtain ⟨b, o, l⟩ := x
  have hw : ∀ w ∈ (b :: o :: l).map fracT, w ≠ [] ∧ (32 : UInt8) ∉ w := fun w hw => by
    obtain ⟨x, hx, rfl⟩ := List.mem_map.1 hw
    exact ⟨fracT_ne x, fracT_no 32 (.inl (by decide))⟩
  rw [tuneT_join]
  exact ⟨wordsF_join _ (by simp) hw, splitC_join _ (by simp) fun w hm => (hw w hm).2⟩
theorem tn_of {x : tTuning.den} (h : tuneF x = true) : tnI (tuneT x) = (x, true) ∧ tnS (tuneT x) = (x, true) := by
  have hb := tuneF_bd h
  have h1 := (tune_bd h).2.2
  have hw := tn_words h
  have hm : ∀ y ∈ x.1 :: x.2.1 :: x.2.2, frO (fracT y) = some y := fun y hy => by
    refine frO_of ?_
    rcases List.mem_cons.1 hy with rfl | hy
    · exact hb.1
    · rcases List.mem_cons.1 hy with rfl | hy
      · exact hb.2.1
      · exact List.all_eq_true.1 hb.2.2.2 y hy
  unfold tnI tnS
  rw [hw.1, hw.2, allM_of _ hm]
  obtain ⟨b, o, l⟩ := x
  have hl : 1 ≤ l.length ∧ l.length ≤ 24 := by
    have := h1
    simp only at this
    omega
  have hl2 : (l : List (Int × Int)).length ≤ 24 := hl.2
  have hl1 : 1 ≤ (l : List (Int × Int)).length := hl.1
  have c1 : 3 ≤ (l : List (Int × Int)).length + 1 + 1 := by omega
  have c2 : 3 ≤ (l : List (Int × Int)).length + 1 + 1 ∧ (l : List (Int × Int)).length + 1 + 1 ≤ 26 := ⟨c1, by omega⟩
  simp only [tnOf, tuneOf_cons, h, true_and, if_true, List.length_map, List.length_cons]
  rw [if_pos ⟨c1, trivial⟩, if_pos c2]
  exact ⟨rfl, rfl⟩
theorem tn_eq (s : Bs) : tnS s = tnI s := by
  refine reader_eq (T := tuneT) (V := fun x => tuneF x = true) (s := s) (z := ((0, 0), (0, 0), [])) ?_ ?_ ?_ ?_ ?_ ?_
  · unfold tnS
    intro h
    repeat' split
    all_goals first | rfl | (simp_all; done)
  · unfold tnI tnOf
    intro h
    repeat' split
    all_goals first | rfl | (simp_all; done)
  · unfold tnS
    intro h
    split at h
    · rename_i hl
      rw [if_pos hl]
      split at h
      · rename_i l hm
        split at h
        · rename_i ht
          simp only [hm, ht, if_true]
          refine ⟨by first | exact ht | trivial, ?_⟩
          have h1 := allM_to frO_to _ l hm
          have h2 := allM_len _ l hm
          have h3 := tune_l (l := l) (by omega)
          show tuneT (atF l 0, atF l 1, l.drop 2) = s
          rw [tuneT_join, ← h3, h1, join_splitC]
        · simp at h
      · simp at h
    · simp at h
  · unfold tnI tnOf
    intro h
    generalize allM frO (wordsF s) = o at *
    cases o with
    | none => simp at h
    | some l =>
      simp only at h ⊢
      split at h
      · rename_i hc
        rw [if_pos hc]
        exact ⟨hc.2.1, hc.2.2⟩
      · simp at h
  · rintro x hx rfl; exact (tn_of hx).2
  · rintro x hx rfl; exact (tn_of hx).1
/-- What is read until something fails. -/
def preM {α : Type} (f : Bs → Option α) : List Bs → List α
  | [] => []
  | w :: ws => match f w with
    | some x => x :: preM f ws
    | none => []
theorem preM_at {α : Type} (f : Bs → Option α) (ws : List Bs) (i : Nat) (h : i < ws.length) : preM f (ws.drop i) = match f (ws.getD i []) with
    | some x => x :: preM f (ws.drop (i + 1))
    | none => [] := by
  rw [List.drop_eq_getElem_cons h, getD_lt _ _ _ h, preM]
theorem preM_all {α : Type} {f : Bs → Option α} : ∀ (ws : List Bs) (l : List α), allM f ws = some l → preM f ws = l
  | [], l, h => by simp only [allM, Option.some.injEq] at h; subst h; rfl
  | w :: ws, l, h => by
    rw [allM] at h
    rw [preM]
    cases hf : f w with
    | none => rw [hf] at h; simp at h
    | some x =>
      rw [hf] at h
      cases hl : allM f ws with
      | none => rw [hl] at h; simp at h
      | some l' =>
        rw [hl] at h
        simp only [Option.some.injEq] at h
        subst h
        show x :: preM f ws = _
        rw [preM_all ws l' hl]
theorem words_len {s : Bs} : ∀ w ∈ wordsF s, w.length ≤ s.length := fun w hw => splitC_mem_len 32 s w (List.mem_filter.1 hw).1
theorem wordsF_len (s : Bs) : (wordsF s).length ≤ s.length + 1 := Nat.le_trans (List.length_filter_le _ _) (splitC_len 32 s)
theorem getD_mem_len {ws : List Bs} {m : Nat} (h : ∀ w ∈ ws, w.length ≤ m) (i : Nat) (hi : i < ws.length) : (ws.getD i []).length ≤ m := by
  rw [getD_lt _ _ _ hi]; exact h _ (List.getElem_mem _)
end Go.Proofs.YtkeckmdmmbeaiaaDoor
