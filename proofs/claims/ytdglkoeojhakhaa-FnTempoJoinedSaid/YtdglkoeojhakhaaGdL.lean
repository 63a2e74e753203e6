/- Plain laws on tempo maps that are changed. Conditions: as each says. -/
import Derived.Test.YtdglkoeojhakhaaGb
set_option linter.unusedSimpArgs false
set_option linter.unusedVariables false
namespace Go.Proofs.Ytdglkoeojhakhaa
open Go.RowKit Sx
def keepLt (ts : List tTempo.den) (u v : Int) : List tTempo.den := ts.filter fun x => decide (cmpB x.1 (u, v) < 0)
def keepGt (ts : List tTempo.den) (u v : Int) : List tTempo.den := ts.filter fun x => decide (0 < cmpB x.1 (u, v))
theorem keepLt_step (ts : List tTempo.den) (u v : Int) (i : Nat) (h : i < ts.length) : keepLt (ts.drop i) u v = (if cmpB (tAt ts i).1 (u, v) < 0 then [tAt ts i] else []) ++ keepLt (ts.drop (i + 1)) u v := by
  unfold keepLt tAt
  rw [List.drop_eq_getElem_cons h, getD_lt _ _ _ h, List.filter_cons]
  by_cases hc : cmpB (ts[i]).1 (u, v) < 0 <;> simp [hc]
theorem keepGt_step (ts : List tTempo.den) (u v : Int) (i : Nat) (h : i < ts.length) : keepGt (ts.drop i) u v = (if 0 < cmpB (tAt ts i).1 (u, v) then [tAt ts i] else []) ++ keepGt (ts.drop (i + 1)) u v := by
  unfold keepGt tAt
  rw [List.drop_eq_getElem_cons h, getD_lt _ _ _ h, List.filter_cons]
  by_cases hc : 0 < cmpB (ts[i]).1 (u, v) <;> simp [hc]
theorem keepLt_len (ts : List tTempo.den) (u v : Int) : (keepLt ts u v).length ≤ ts.length := List.length_filter_le _ _
theorem keepGt_len (ts : List tTempo.den) (u v : Int) : (keepGt ts u v).length ≤ ts.length := List.length_filter_le _ _
/-- A tempo put to its place; d: it is there already. -/
def putL : List tTempo.den → (u v s : Int) → Bool → List tTempo.den
  | [], u, v, s, d => if d = true then [] else [((u, v), s)]
  | y :: ys, u, v, s, d => (if 0 ≤ cmpB y.1 (u, v) ∧ d = false then [((u, v), s)] else []) ++ ((if cmpB y.1 (u, v) ≠ 0 then [y] else []) ++ putL ys u v s (d || decide (0 ≤ cmpB y.1 (u, v))))
theorem putL_step (ts : List tTempo.den) (u v s : Int) (d : Bool) (i : Nat) (h : i < ts.length) : putL (ts.drop i) u v s d = (if 0 ≤ cmpB (tAt ts i).1 (u, v) ∧ d = false then [((u, v), s)] else []) ++ ((if cmpB (tAt ts i).1 (u, v) ≠ 0 then [tAt ts i] else []) ++ putL (ts.drop (i + 1)) u v s (d || decide (0 ≤ cmpB (tAt ts i).1 (u, v)))) := by
  unfold tAt
  rw [List.drop_eq_getElem_cons h, getD_lt _ _ _ h]
  rfl
theorem putL_end (u v s : Int) (d : Bool) : putL [] u v s d = if d = true then [] else [((u, v), s)] := rfl
theorem putL_len : ∀ (ts : List tTempo.den) (u v s : Int) (d : Bool), (putL ts u v s d).length ≤ ts.length + (if d = true then 0 else 1)
  | [], u, v, s, d => by cases d <;> simp [putL]
  | y :: ys, u, v, s, d => by
    have h := putL_len ys u v s (d || decide (0 ≤ cmpB y.1 (u, v)))
    simp only [putL, List.length_append, List.length_cons]
    cases d <;> by_cases h1 : 0 ≤ cmpB y.1 (u, v) <;> by_cases h2 : cmpB y.1 (u, v) ≠ 0 <;> simp [h1, h2] at h ⊢ <;> omega
theorem putL_true : ∀ (ts : List tTempo.den) (u v s : Int), (∀ x ∈ ts, 0 < cmpB x.1 (u, v)) → putL ts u v s true = ts
  | [], u, v, s, _ => rfl
  | y :: ys, u, v, s, h => by
    have h1 := h y (by simp)
    simp only [putL, Bool.true_or]
    rw [putL_true ys u v s fun x hx => h x (by simp [hx]), if_neg (by simp), if_pos (by omega)]
    rfl
/-- The same, but for what is put at the end. -/
def putM : List tTempo.den → (u v s : Int) → Bool → List tTempo.den
  | [], u, v, s, d => []
  | y :: ys, u, v, s, d => (if 0 ≤ cmpB y.1 (u, v) ∧ d = false then [((u, v), s)] else []) ++ ((if cmpB y.1 (u, v) ≠ 0 then [y] else []) ++ putM ys u v s (d || decide (0 ≤ cmpB y.1 (u, v))))
def putD : List tTempo.den → (u v : Int) → Bool → Bool
  | [], u, v, d => d
  | y :: ys, u, v, d => putD ys u v (d || decide (0 ≤ cmpB y.1 (u, v)))
theorem putM_step (ts : List tTempo.den) (u v s : Int) (d : Bool) (i : Nat) (h : i < ts.length) : putM (ts.drop i) u v s d = (if 0 ≤ cmpB (tAt ts i).1 (u, v) ∧ d = false then [((u, v), s)] else []) ++ ((if cmpB (tAt ts i).1 (u, v) ≠ 0 then [tAt ts i] else []) ++ putM (ts.drop (i + 1)) u v s (d || decide (0 ≤ cmpB (tAt ts i).1 (u, v)))) := by
  unfold tAt
  rw [List.drop_eq_getElem_cons h, getD_lt _ _ _ h]
  rfl
theorem putD_step (ts : List tTempo.den) (u v : Int) (d : Bool) (i : Nat) (h : i < ts.length) : putD (ts.drop i) u v d = putD (ts.drop (i + 1)) u v (d || decide (0 ≤ cmpB (tAt ts i).1 (u, v))) := by
  unfold tAt
  rw [List.drop_eq_getElem_cons h, getD_lt _ _ _ h]
  rfl
theorem putL_eq : ∀ (ts : List tTempo.den) (u v s : Int) (d : Bool), putL ts u v s d = putM ts u v s d ++ (if putD ts u v d = true then [] else [((u, v), s)])
  | [], u, v, s, d => rfl
  | y :: ys, u, v, s, d => by
    simp only [putL, putM, putD, putL_eq ys, List.append_assoc]
    rfl
theorem putM_len (ts : List tTempo.den) (u v s : Int) (d : Bool) : (putM ts u v s d).length ≤ ts.length + 1 := by
  have h := putL_len ts u v s d
  rw [putL_eq, List.length_append] at h
  cases d <;> simp at h <;> omega
def Inc (ts : List tTempo.den) : Prop := ts.Pairwise fun x y => cmpB x.1 y.1 < 0
theorem ord_inc {ts : List tTempo.den} (h : Ord ts) : Inc ts := by
  unfold Inc
  rw [List.pairwise_iff_getElem]
  intro i j hi hj hij
  have := h.lt (j - i - 1) i (by omega)
  rw [show i + (j - i - 1) + 1 = j by omega] at this
  unfold tAt at this
  rwa [getD_lt _ _ _ hi, getD_lt _ _ _ hj] at this
theorem ord_den {ts : List tTempo.den} (h : Ord ts) : ∀ x ∈ ts, 1 ≤ x.1.2 := by
  intro x hx
  obtain ⟨i, hi, rfl⟩ := List.getElem_of_mem hx
  have := (goodT_ok (h i hi).1).1
  unfold tAt at this
  rw [getD_lt _ _ _ hi] at this
  exact (okF_bd this).1.1
theorem filter_all {α : Type} {f : α → Bool} : ∀ (l : List α), (∀ x ∈ l, f x = true) → l.filter f = l
  | [], _ => rfl
  | y :: ys, h => by rw [List.filter_cons, if_pos (h y (by simp)), filter_all ys fun x hx => h x (by simp [hx])]
theorem filter_none {α : Type} {f : α → Bool} : ∀ (l : List α), (∀ x ∈ l, f x = false) → l.filter f = []
  | [], _ => rfl
  | y :: ys, h => by rw [List.filter_cons, if_neg (by simp [h y (by simp)]), filter_none ys fun x hx => h x (by simp [hx])]
theorem cross {u v y1 y2 x1 x2 : Int} (hv : 1 ≤ v) (hy : 1 ≤ y2) (hx : 1 ≤ x2) (a2 : u * y2 ≤ y1 * v) (a1 : y1 * x2 < x1 * y2) : u * x2 < x1 * v := by
  have b1 : u * y2 * x2 ≤ y1 * v * x2 := Int.mul_le_mul_of_nonneg_right a2 (by omega)
  have b2 : y1 * x2 * v < x1 * y2 * v := Int.mul_lt_mul_of_pos_right a1 (by omega)
  have c1 : u * x2 * y2 < x1 * v * y2 := by
    rw [show u * x2 * y2 = u * y2 * x2 by rw [Int.mul_right_comm], show x1 * v * y2 = x1 * y2 * v by rw [Int.mul_right_comm]]
    rw [show y1 * v * x2 = y1 * x2 * v by rw [Int.mul_right_comm]] at b1
    omega
  exact Int.lt_of_mul_lt_mul_right c1 (by omega)
theorem put_law : ∀ (ts : List tTempo.den) (u v s : Int), Inc ts → (∀ x ∈ ts, 1 ≤ x.1.2) → 1 ≤ v → putL ts u v s false = keepLt ts u v ++ ((u, v), s) :: keepGt ts u v
  | [], u, v, s, _, _, _ => rfl
  | y :: ys, u, v, s, hi, hd, hv => by
    have hi' := List.pairwise_cons.1 hi
    have hdy := hd y (by simp)
    have hds : ∀ x ∈ ys, 1 ≤ x.1.2 := fun x hx => hd x (by simp [hx])
    by_cases hc : cmpB y.1 (u, v) < 0
    · have ih := put_law ys u v s hi'.2 hds hv
      have e1 : keepLt (y :: ys) u v = y :: keepLt ys u v := by unfold keepLt; rw [List.filter_cons, if_pos (by simpa using hc)]
      have e2 : keepGt (y :: ys) u v = keepGt ys u v := by unfold keepGt; rw [List.filter_cons, if_neg (by simp; omega)]
      simp only [putL, Bool.false_or]
      rw [decide_eq_false (by omega), ih, if_neg (by omega), if_pos (by omega), e1, e2]
      rfl
    · have hle : cmpB (u, v) y.1 ≤ 0 := by
        have := cmpB_le (a := (u, v)) (b := y.1)
        have := cmpB_lt (a := y.1) (b := (u, v))
        omega
      have hgt : ∀ x ∈ ys, 0 < cmpB x.1 (u, v) := fun x hx => by
        have h1 := hi'.1 x hx
        have h2 : (u, v).1 * x.1.2 < x.1.1 * (u, v).2 := cross hv hdy (hds x hx) (cmpB_le.1 hle) (cmpB_lt.1 h1)
        exact cmpB_gt.2 h2
      have e1 : keepLt (y :: ys) u v = [] := by
        unfold keepLt
        refine filter_none _ fun x hx => ?_
        rcases List.mem_cons.1 hx with rfl | hx
        · simpa using hc
        · have := hgt x hx; simp; omega
      have e2 : keepGt ys u v = ys := by
        unfold keepGt
        exact filter_all _ fun x hx => by simpa using hgt x hx
      simp only [putL, Bool.false_or]
      rw [decide_eq_true (show 0 ≤ cmpB y.1 (u, v) by omega), putL_true ys u v s hgt, if_pos ⟨by omega, by trivial⟩, e1]
      unfold keepGt at e2 ⊢
      rw [List.filter_cons, e2]
      by_cases hc0 : 0 < cmpB y.1 (u, v)
      · rw [if_pos (by omega), if_pos (by simpa using hc0)]; rfl
      · rw [if_neg (by omega), if_neg (by simpa using hc0)]; rfl
def tendF (l : List tTempo.den) : List tTempo.den × Int := if 8 < l.length then ([], 5) else if tmapF l = true then (l, 0) else ([], 2)
def setF (ts : List tTempo.den) (u v s : Int) : List tTempo.den × Int :=
  if askF ts (u, v) ≠ 0 then ([], askF ts (u, v)) else if inB s 1 1000 = true then tendF (keepLt ts u v ++ ((u, v), s) :: keepGt ts u v) else ([], 2)
def shiftT (u v : Int) (x : tTempo.den) : tTempo.den := ((addF x.1.1 x.1.2 u v).1, x.2)
def shiftL (us : List tTempo.den) (u v : Int) : List tTempo.den := us.map (shiftT u v)
theorem shiftL_step (us : List tTempo.den) (u v : Int) (i : Nat) (h : i < us.length) : shiftL (us.drop i) u v = shiftT u v (tAt us i) :: shiftL (us.drop (i + 1)) u v := by
  unfold shiftL tAt
  rw [List.drop_eq_getElem_cons h, getD_lt _ _ _ h, List.map_cons]
theorem shiftL_len (us : List tTempo.den) (u v : Int) : (shiftL us u v).length = us.length := List.length_map _
def joinF (ts : List tTempo.den) (u v : Int) (us : List tTempo.den) : List tTempo.den × Int :=
  if bcF [ts, us] (u, v) ≠ 0 then ([], bcF [ts, us] (u, v)) else tendF (keepLt ts u v ++ shiftL us u v)
theorem bcF_two {ts us : List tTempo.den} {u v : Int} (h : bcF [ts, us] (u, v) = 0) : ((tmapF ts = true ∧ tmapF us = true) ∧ okF u v = true) ∧ (0 ≤ u ∧ u ≤ 1000 * v) := by
  unfold bcF at h
  split at h
  · rename_i h1
    split at h
    · rename_i h2
      simp only [beatF, Bool.and_eq_true, decide_eq_true_eq] at h2
      simp only [List.all_cons, List.all_nil, Bool.and_true, Bool.and_eq_true] at h1
      exact ⟨h1, h2.2⟩
    · omega
  · omega
theorem bcF_val (ts us : List tTempo.den) (u v : Int) : bcF [ts, us] (u, v) = if (tmapF ts = true ∧ tmapF us = true) ∧ okF u v = true then (if 0 ≤ u ∧ u ≤ 1000 * v then 0 else 2) else 1 := by
  unfold bcF
  simp only [List.all_cons, List.all_nil, Bool.and_true, Bool.and_eq_true]
  by_cases h : (tmapF ts = true ∧ tmapF us = true) ∧ okF u v = true
  · rw [if_pos h, if_pos h]
    simp only [beatF, Bool.and_eq_true, decide_eq_true_eq, h.2, true_and]
  · rw [if_neg h, if_neg h]
theorem bcF_full {ts us : List tTempo.den} {u v : Int} (h1 : tmapF ts = true) (h2 : tmapF us = true) (h3 : okF u v = true) (h4 : (decide (0 ≤ u) && decide (u ≤ 1000 * v)) = true) : bcF [ts, us] (u, v) = 0 := by
  rw [bcF_val, if_pos ⟨⟨h1, h2⟩, h3⟩, if_pos (by simpa using h4)]
theorem tendF_len (l : List tTempo.den) : (tendF l).1.length ≤ 8 := by
  unfold tendF
  split
  · simp
  · split
    · simp only; omega
    · simp
theorem setF_len (ts : List tTempo.den) (u v s : Int) : (setF ts u v s).1.length ≤ 8 := by
  unfold setF
  split
  · simp
  · split
    · exact tendF_len _
    · simp
theorem joinF_len (ts : List tTempo.den) (u v : Int) (us : List tTempo.den) : (joinF ts u v us).1.length ≤ 8 := by
  unfold joinF
  split
  · simp
  · exact tendF_len _
end Go.Proofs.Ytdglkoeojhakhaa
