/- Plain laws: names of pitches read back. Conditions: as each says. -/
import Derived.Test.YtkeckmdmmbeaiaaDoorXaL
import Derived.Test.YtkeckmdmmbeaiaaDoorUa
set_option linter.unusedSimpArgs false
set_option linter.unusedVariables false
namespace Go.Proofs.YtkeckmdmmbeaiaaDoor
open Go.RowKit Sx
def mark8 (b : UInt8) : Bool := decide (b = 35 ∨ b = 98)
theorem rep_app (c : UInt8) (n m : Nat) : Go.Lib.repeatL [c] (n + m) = Go.Lib.repeatL [c] n ++ Go.Lib.repeatL [c] m := by
  induction n with
  | zero => simp [Go.Lib.repeatL]
  | succ n ih => rw [show n + 1 + m = (n + m) + 1 by omega]; show [c] ++ Go.Lib.repeatL [c] (n + m) = [c] ++ Go.Lib.repeatL [c] n ++ _; rw [ih, List.append_assoc]
theorem rep_mem' {c b : UInt8} : ∀ k, b ∈ Go.Lib.repeatL [c] k → b = c
  | 0, h => by simp [Go.Lib.repeatL] at h
  | k + 1, h => by
    rw [show Go.Lib.repeatL [c] (k + 1) = [c] ++ Go.Lib.repeatL [c] k from rfl] at h
    rcases List.mem_append.1 h with h | h
    · simpa using h
    · exact rep_mem' k h
theorem rep_count (c b : UInt8) : ∀ k, (Go.Lib.repeatL [c] k).count b = if c = b then k else 0
  | 0 => by simp [Go.Lib.repeatL]
  | k + 1 => by
    rw [show Go.Lib.repeatL [c] (k + 1) = [c] ++ Go.Lib.repeatL [c] k from rfl, List.count_append, rep_count c b k]
    by_cases h : c = b <;> simp [h] <;> omega
theorem decT_head (n : Int) : ∃ b r, decT n = b :: r ∧ mark8 b = false := by
  rcases itoa_cases n with ⟨_, e⟩ | ⟨_, e⟩
  · exact ⟨45, _, e, by decide⟩
  · obtain ⟨b, r, e', h⟩ := decD_cons n.natAbs
    refine ⟨b, r, e.trans e', ?_⟩
    unfold mark8
    rw [decide_eq_false_iff_not]
    rintro (rfl | rfl) <;> simp at h
/-- The marks of an alteration. -/
def marksT (al : Int) : Bs := Go.Lib.repeatL [35] al.toNat ++ Go.Lib.repeatL [98] (0 - al).toNat
theorem marksT_mem (al : Int) : ∀ b ∈ marksT al, mark8 b = true := by
  intro b hb
  unfold mark8
  rw [decide_eq_true_eq]
  rcases List.mem_append.1 hb with h | h
  · exact .inl (rep_mem' _ h)
  · exact .inr (rep_mem' _ h)
theorem marks_len (al : Int) : (marksT al).length = al.toNat + (0 - al).toNat := by
  unfold marksT
  rw [List.length_append, Go.Lib.repeatL_length, Go.Lib.repeatL_length]; simp
theorem marks_drop (al c : Int) : (marksT al ++ decT c).dropWhile mark8 = decT c := by
  obtain ⟨b, r, e, h⟩ := decT_head c
  rw [List.dropWhile_append_of_pos (marksT_mem al), e, List.dropWhile_cons_of_neg (by rw [h]; simp)]
theorem marks_count (al : Int) : ((marksT al).count 35 : Int) - ((marksT al).count 98 : Int) = al := by
  unfold marksT
  simp only [List.count_append, rep_count]
  simp
  omega
/-- As the program reads: what stands behind the step. -/
def altOf (t : Bs) : Int := ((t.take (t.length - (t.dropWhile mark8).length)).count 35 : Int) - ((t.take (t.length - (t.dropWhile mark8).length)).count 98 : Int)
theorem altOf_eq (al c : Int) : altOf (marksT al ++ decT c) = al := by
  unfold altOf
  rw [marks_drop, List.length_append, Nat.add_sub_cancel, List.take_left, marks_count]
def pitOf (st : Int) (s : Bs) (q : Int × Bool) (al : Int) : (Int × Int × Int) × Bool :=
  if q.2 = true ∧ okP st al q.1 = true ∧ pitT (st, al, q.1) = s then ((st, al, q.1), true) else ((0, 0, 0), false)
def rdPitI (s : Bs) : (Int × Int × Int) × Bool := match s with
  | [] => ((0, 0, 0), false)
  | b :: t => pitOf (Go.Lib.indexByte stepL b) (b :: t) (readD (t.dropWhile mark8)) (altOf t)
/-- As the reference reads. -/
def stGo (b : UInt8) : Nat → Nat → Int → Int
  | 0, _, z => z
  | n + 1, k, z => stGo b n (k + 1) (if stepL.getD k 0 = b then (k : Int) else z)
def mkL : Bs → Int → Int × Bs
  | [], z => (z, [])
  | b :: r, z => if b = 35 then mkL r (z + 1) else if b = 98 then mkL r (z - 1) else (z, b :: r)
theorem mkL_len : ∀ (t : Bs) (z : Int), (mkL t z).2.length ≤ t.length ∧ (mkL t z).2 = t.drop (t.length - (mkL t z).2.length)
  | [], z => ⟨by simp [mkL], by simp [mkL]⟩
  | b :: r, z => by
    have key : ∀ z', (mkL r z').2.length ≤ (b :: r).length ∧ (mkL r z').2 = (b :: r).drop ((b :: r).length - (mkL r z').2.length) := fun z' => by
      obtain ⟨h1, h2⟩ := mkL_len r z'
      refine ⟨by simp only [List.length_cons]; omega, ?_⟩
      rw [List.length_cons, show r.length + 1 - (mkL r z').2.length = (r.length - (mkL r z').2.length) + 1 by omega, List.drop_succ_cons]
      exact h2
    unfold mkL
    split
    · exact key _
    · split
      · exact key _
      · exact ⟨Nat.le_refl _, by simp⟩
theorem mkL_bd : ∀ (t : Bs) (z : Int), z - t.length ≤ (mkL t z).1 ∧ (mkL t z).1 ≤ z + t.length
  | [], z => by simp [mkL]
  | b :: r, z => by
    have h1 := mkL_bd r (z + 1)
    have h2 := mkL_bd r (z - 1)
    unfold mkL
    split
    · simp only [List.length_cons]; omega
    · split
      · simp only [List.length_cons]; omega
      · simp only [List.length_cons]; omega
theorem mkL_up : ∀ (n : Nat) (t : Bs) (z : Int), mkL (Go.Lib.repeatL [35] n ++ t) z = mkL t (z + n)
  | 0, t, z => by simp [Go.Lib.repeatL]
  | n + 1, t, z => by
    rw [show Go.Lib.repeatL [35] (n + 1) = [35] ++ Go.Lib.repeatL [35] n from rfl, List.append_assoc, List.singleton_append, mkL, if_pos rfl, mkL_up n]
    congr 1; omega
theorem mkL_dn : ∀ (n : Nat) (t : Bs) (z : Int), mkL (Go.Lib.repeatL [98] n ++ t) z = mkL t (z - n)
  | 0, t, z => by simp [Go.Lib.repeatL]
  | n + 1, t, z => by
    rw [show Go.Lib.repeatL [98] (n + 1) = [98] ++ Go.Lib.repeatL [98] n from rfl, List.append_assoc, List.singleton_append, mkL, if_neg (by decide), if_pos rfl, mkL_dn n]
    congr 1; omega
theorem mkL_marks (al c : Int) : mkL (marksT al ++ decT c) 0 = (al, decT c) := by
  unfold marksT
  rw [List.append_assoc, mkL_up, mkL_dn]
  obtain ⟨b, r, e, h⟩ := decT_head c
  unfold mark8 at h
  rw [decide_eq_false_iff_not] at h
  rw [e, mkL, if_neg (fun e => h (.inl e)), if_neg (fun e => h (.inr e))]
  congr 1; omega
def rdPitS (s : Bs) : (Int × Int × Int) × Bool := match s with
  | [] => ((0, 0, 0), false)
  | b :: t => pitOf (stGo b 7 0 (-1)) (b :: t) (readD (mkL t 0).2) (mkL t 0).1
theorem pitOf_no {st : Int} {s : Bs} {q : Int × Bool} {al : Int} (h : (pitOf st s q al).2 = false) : pitOf st s q al = ((0, 0, 0), false) := by
  unfold pitOf at h ⊢
  split
  · rename_i hc; rw [if_pos hc] at h; simp at h
  · rfl
theorem pitOf_ok {st : Int} {s : Bs} {q : Int × Bool} {al : Int} (h : (pitOf st s q al).2 = true) : okP (pitOf st s q al).1.1 (pitOf st s q al).1.2.1 (pitOf st s q al).1.2.2 = true ∧ pitT (pitOf st s q al).1 = s := by
  unfold pitOf at h ⊢
  split
  · rename_i hc; exact ⟨hc.2.1, hc.2.2⟩
  · rename_i hc; rw [if_neg hc] at h; simp at h
theorem step_cut {a : Int} (h : 0 ≤ a ∧ a ≤ 6) : cutL stepL a (a + 1) = [stepL.getD a.toNat 0] ∧ Go.Lib.indexByte stepL (stepL.getD a.toNat 0) = a ∧ stGo (stepL.getD a.toNat 0) 7 0 (-1) = a := by
  obtain ⟨k, rfl⟩ := Int.eq_ofNat_of_zero_le h.1
  have hk : k < 7 := by omega
  have : ∀ k : Fin 7, cutL stepL ((k : Nat) : Int) (((k : Nat) : Int) + 1) = [stepL.getD ((k : Nat) : Int).toNat 0] ∧ Go.Lib.indexByte stepL (stepL.getD ((k : Nat) : Int).toNat 0) = ((k : Nat) : Int) ∧ stGo (stepL.getD ((k : Nat) : Int).toNat 0) 7 0 (-1) = ((k : Nat) : Int) := by decide
  exact this ⟨k, hk⟩
theorem pitT_eq {a b c : Int} (h : 0 ≤ a ∧ a ≤ 6) : pitT (a, b, c) = stepL.getD a.toNat 0 :: (marksT b ++ decT c) := by
  unfold pitT marksT
  simp only [(step_cut h).1]
  simp [List.append_assoc]
theorem rdPitI_of {x : Int × Int × Int} (h : okP x.1 x.2.1 x.2.2 = true) : rdPitI (pitT x) = (x, true) := by
  obtain ⟨a, b, c⟩ := x
  have hb := okP_bd h
  simp only at hb h
  have e := pitT_eq (a := a) (b := b) (c := c) hb.1
  have s := step_cut hb.1
  rw [e]
  unfold rdPitI
  simp only [s.2.1, marks_drop, altOf_eq, readD_of (n := c) ⟨by omega, by omega⟩]
  unfold pitOf
  rw [if_pos ⟨rfl, h, e⟩]
theorem rdPitS_of {x : Int × Int × Int} (h : okP x.1 x.2.1 x.2.2 = true) : rdPitS (pitT x) = (x, true) := by
  obtain ⟨a, b, c⟩ := x
  have hb := okP_bd h
  simp only at hb h
  have e := pitT_eq (a := a) (b := b) (c := c) hb.1
  have s := step_cut hb.1
  rw [e]
  unfold rdPitS
  simp only [s.2.2, mkL_marks, readD_of (n := c) ⟨by omega, by omega⟩]
  unfold pitOf
  rw [if_pos ⟨rfl, h, e⟩]
theorem rdPit_eq (s : Bs) : rdPitS s = rdPitI s := by
  refine reader_eq (T := pitT) (V := fun x => okP x.1 x.2.1 x.2.2 = true) (s := s) (z := (0, 0, 0)) ?_ ?_ ?_ ?_ ?_ ?_
  · cases s with
    | nil => intro _; rfl
    | cons b t => exact pitOf_no
  · cases s with
    | nil => intro _; rfl
    | cons b t => exact pitOf_no
  · cases s with
    | nil => intro h; simp [rdPitS] at h
    | cons b t => exact pitOf_ok
  · cases s with
    | nil => intro h; simp [rdPitI] at h
    | cons b t => exact pitOf_ok
  · rintro x hx rfl; exact rdPitS_of hx
  · rintro x hx rfl; exact rdPitI_of hx
end Go.Proofs.YtkeckmdmmbeaiaaDoor
