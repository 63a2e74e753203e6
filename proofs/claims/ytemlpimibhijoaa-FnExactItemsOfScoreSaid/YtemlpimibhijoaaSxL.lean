/- The evaluator: typed contracts, a table of contracts. Conditions: as each says. -/
import Derived.Test.YtemlpimibhijoaaSxJ
set_option linter.unusedSimpArgs false
set_option linter.unusedVariables false
namespace Go.Proofs.Ytemlpimibhijoaa
open Go.RowKit
namespace Sx
/-- An argument: one cell, or a struct of cells. -/
inductive Sh where
  | v (t : Ty)
  | s (t : Ty)
  | p (t : Ty)
  | ov (t : Ty)
  | os (t : Ty)
  | f (n : Nat)
  | c1 (n : Nat) (t : Ty)
  | c2 (n : Nat) (t t2 : Ty)
@[reducible] def Sh.den : Sh → Type
  | .v t => t.den
  | .s t => t.den
  | .p t => t.den
  | .ov t => t.den
  | .os t => t.den
  | .f _ => Unit
  | .c1 _ t => t.den
  | .c2 _ t t2 => t.den × t2.den
@[reducible] def Args : List Sh → Type
  | [] => Unit
  | x :: l => x.den × Args l
def encV (t : Ty) (x : t.den) : AV := (enc t x).headD .unk
def encS (t : Ty) (x : t.den) : AV := .agg (enc t x)
/-- Cells with their row as one's own. -/
def encO : (t : Ty) → t.den → List AV
  | .int k, z => [.int k z]
  | .bool, b => [.bool b]
  | .str, s => [.str s]
  | .pair a b, x => encO a x.1 ++ encO b x.2
  | .seq t, xs => [.own t xs]
  | .deep t, x => encO t x
def decOq (t : Ty) (l : List AV) : Option (List t.den) :=
  match l with
  | [.own t' xs] => if h : t' = t then some (castT h xs) else none
  | _ => none
def decO : (t : Ty) → List AV → Option t.den
  | .int k, l => decI k l
  | .bool, l => decB l
  | .str, l => decS l
  | .seq t, l => decOq t l
  | .deep t, l => decO t l
  | .pair a b, l => match decO a (l.take a.size), decO b (l.drop a.size) with
    | some x, some y => some (x, y)
    | _, _ => none
def encSh : (s : Sh) → s.den → AV
  | .v t, x => encV t x
  | .s t, x => encS t x
  | .p t, x => .velt t x 0
  | .ov t, x => (encO t x).headD .unk
  | .os t, x => .agg (encO t x)
  | .f n, _ => .fn n
  | .c1 n t, x => .clo n [.velt t x 0]
  | .c2 n t t2, x => .clo n [.velt t x.1 0, .velt t2 x.2 0]
def encA : (l : List Sh) → Args l → List AV
  | [], _ => []
  | s :: l, x => encSh s x.1 :: encA l x.2
def decP (t : Ty) : AV → Option t.den
  | .velt t' x off => bif Nat.beq off 0 then decT t (enc t' x) else none
  | _ => none
def decC1 (n : Nat) (t : Ty) : AV → Option t.den
  | .clo m [a] => bif Nat.beq m n then decP t a else none
  | _ => none
def decC2 (n : Nat) (t t2 : Ty) : AV → Option (t.den × t2.den)
  | .clo m [a, b] => bif Nat.beq m n then match decP t a, decP t2 b with
    | some x, some y => some (x, y)
    | _, _ => none else none
  | _ => none
def decSh : (s : Sh) → AV → Option s.den
  | .v t, v => bif Nat.beq t.size 1 then decT t [v] else none
  | .s t, .agg cs => decT t cs
  | .p t, .velt t' x off => bif Nat.beq off 0 then decT t (enc t' x) else none
  | .ov t, v => bif Nat.beq t.size 1 then decO t [v] else none
  | .os t, .agg cs => decO t cs
  | .f n, .fn m => bif Nat.beq m n then some () else none
  | .c1 n t, v => decC1 n t v
  | .c2 n t t2, v => decC2 n t t2 v
  | _, _ => none
def decA : (l : List Sh) → List AV → Option (Args l)
  | [], [] => some ()
  | s :: l, v :: vs => match decSh s v, decA l vs with
    | some x, some y => some (x, y)
    | _, _ => none
  | _, _ => none
section
variable {c : Cx}
theorem enc_one_cell {t : Ty} (h : t.size = 1) (x : t.den) : enc t x = [encV t x] := by
  have := enc_length t x
  rw [h] at this
  unfold encV
  match he : enc t x, this with
  | [v], _ => rfl
theorem encO_length : ∀ (t : Ty) (x : t.den), (encO t x).length = t.size
  | .int _, _ => rfl
  | .bool, _ => rfl
  | .str, _ => rfl
  | .pair a b, x => by simp [encO, Ty.size, encO_length]
  | .seq _, _ => rfl
  | .deep t, x => encO_length t x
theorem encO_one_cell {t : Ty} (h : t.size = 1) (x : t.den) : encO t x = [(encO t x).headD .unk] := by
  have := encO_length t x
  rw [h] at this
  match he : encO t x, this with
  | [v], _ => rfl
theorem ownsL_append : ∀ (xs ys : List AV), ownsOf.ownsL (xs ++ ys) = ownsOf.ownsL xs ++ ownsOf.ownsL ys
  | [], _ => rfl
  | x :: xs, ys => by simp [ownsOf.ownsL, ownsL_append xs ys]
theorem rowedL_append {m : Nat} : ∀ (xs ys : List AV), rowed.rowedL m (xs ++ ys) = rowed.rowedL m xs ++ rowed.rowedL m ys
  | [], _ => rfl
  | x :: xs, ys => by simp [rowed.rowedL, rowedL_append xs ys]
theorem namesL_append : ∀ (xs ys : List AV), AV.names.namesL (xs ++ ys) = AV.names.namesL xs ++ AV.names.namesL ys
  | [], _ => rfl
  | x :: xs, ys => by simp [AV.names.namesL, namesL_append xs ys]
theorem decI_spec {k : IntKind} {l : List AV} {x : Int} (h : decI k l = some x) : l = [.int k x] := by
  unfold decI at h
  split at h
  · rename_i k' n
    by_cases hk : k' = k
    · subst hk; simp only [decide_true, cond_true, Option.some.injEq] at h; rw [h]
    · simp [hk] at h
  · simp at h
theorem decB_spec {l : List AV} {x : Bool} (h : decB l = some x) : l = [.bool x] ∨ l = [.lit x] := by
  unfold decB at h
  split at h <;> simp only [Option.some.injEq, reduceCtorEq] at h <;> subst h <;> simp
theorem decS_spec {l : List AV} {x : List UInt8} (h : decS l = some x) : l = [.str x] := by
  unfold decS at h
  split at h <;> simp only [Option.some.injEq, reduceCtorEq] at h
  subst h; rfl
theorem decT_owns : ∀ {t : Ty} {l : List AV} {x : t.den}, decT t l = some x → ownsOf.ownsL l = []
  | .int _, l, x, h => by rw [decI_spec h]; rfl
  | .bool, l, x, h => by rcases decB_spec h with h | h <;> rw [h] <;> rfl
  | .str, l, x, h => by rw [decS_spec h]; rfl
  | .deep t, l, x, h => decT_owns (t := t) h
  | .seq t, l, x, h => by
    change decQ t l = some x at h
    unfold decQ at h
    split at h
    · rfl
    · rfl
    · simp at h
  | .pair a b, l, x, h => by
    change (match decT a (l.take a.size), decT b (l.drop a.size) with
      | some x, some y => some (x, y)
      | _, _ => none) = some x at h
    split at h
    · rename_i y z h1 h2
      have e := ownsL_append (l.take a.size) (l.drop a.size)
      rw [List.take_append_drop, decT_owns h1, decT_owns h2] at e
      exact e
    · simp at h
theorem enc_owns : ∀ (t : Ty) (x : t.den), ownsOf.ownsL (enc t x) = []
  | .int _, _ => rfl
  | .bool, _ => rfl
  | .str, _ => rfl
  | .seq _, _ => rfl
  | .deep t, x => enc_owns t x
  | .pair a b, x => by simp only [enc, ownsL_append, enc_owns a x.1, enc_owns b x.2, List.append_nil]
theorem enc_names : ∀ (t : Ty) (x : t.den), AV.names.namesL (enc t x) = []
  | .int _, _ => rfl
  | .bool, _ => rfl
  | .str, _ => rfl
  | .seq _, _ => rfl
  | .deep t, x => enc_names t x
  | .pair a b, x => by simp only [enc, namesL_append, enc_names a x.1, enc_names b x.2, List.append_nil]
theorem encO_names : ∀ (t : Ty) (x : t.den), AV.names.namesL (encO t x) = []
  | .int _, _ => rfl
  | .bool, _ => rfl
  | .str, _ => rfl
  | .seq _, _ => rfl
  | .deep t, x => encO_names t x
  | .pair a b, x => by simp only [encO, namesL_append, encO_names a x.1, encO_names b x.2, List.append_nil]
theorem decO_owns : ∀ {t : Ty} {l : List AV} {x : t.den}, decO t l = some x → ownsOf.ownsL l = ownsOf.ownsL (encO t x)
  | .int _, l, x, h => by rw [decI_spec h]; rfl
  | .bool, l, x, h => by rcases decB_spec h with h | h <;> rw [h] <;> rfl
  | .str, l, x, h => by rw [decS_spec h]; rfl
  | .deep t, l, x, h => decO_owns (t := t) h
  | .seq t, l, x, h => by
    change decOq t l = some x at h
    unfold decOq at h
    split at h
    · split at h
      · rename_i he
        subst he
        simp only [Option.some.injEq] at h
        subst h; rfl
      · simp at h
    · simp at h
  | .pair a b, l, x, h => by
    change (match decO a (l.take a.size), decO b (l.drop a.size) with
      | some x, some y => some (x, y)
      | _, _ => none) = some x at h
    split at h
    · rename_i y z h1 h2
      simp only [Option.some.injEq] at h
      subst h
      have e := ownsL_append (l.take a.size) (l.drop a.size)
      rw [List.take_append_drop, decO_owns h1, decO_owns h2] at e
      rw [e]
      simp only [encO, ownsL_append]
    · simp at h
theorem decO_den {m : Nat} : ∀ {t : Ty} {l : List AV} {x : t.den} {vs : List Value}, decO t l = some x → DenL c (rowed.rowedL m l) vs → DenL c (rowed.rowedL m (encO t x)) vs
  | .int _, l, x, vs, h, hd => by rw [decI_spec h] at hd; exact hd
  | .bool, l, x, vs, h, hd => by rcases decB_spec h with h | h <;> rw [h] at hd <;> exact hd
  | .str, l, x, vs, h, hd => by rw [decS_spec h] at hd; exact hd
  | .deep t, l, x, vs, h, hd => decO_den (t := t) h hd
  | .seq t, l, x, vs, h, hd => by
    change decOq t l = some x at h
    unfold decOq at h
    split at h
    · split at h
      · rename_i he
        subst he
        simp only [Option.some.injEq] at h
        subst h; exact hd
      · simp at h
    · simp at h
  | .pair a b, l, x, vs, h, hd => by
    change (match decO a (l.take a.size), decO b (l.drop a.size) with
      | some x, some y => some (x, y)
      | _, _ => none) = some x at h
    split at h
    · rename_i y z h1 h2
      simp only [Option.some.injEq] at h
      subst h
      have e := rowedL_append (m := m) (l.take a.size) (l.drop a.size)
      rw [List.take_append_drop] at e
      rw [e] at hd
      obtain ⟨v1, v2, rfl, g1, g2⟩ := DenL.split hd
      simp only [encO, rowedL_append]
      exact (decO_den h1 g1).append (decO_den h2 g2)
    · simp at h
theorem decP_den {t : Ty} {v : AV} {x : t.den} {r : Value} (h : decP t v = some x) (hd : Den c v r) : Den c (.velt t x 0) r := by
  cases v <;> simp only [decP, reduceCtorEq] at h
  rename_i t' y off
  cases ho : Nat.beq off 0 <;> rw [ho] at h <;> simp only [cond_true, cond_false, reduceCtorEq] at h
  have ho : off = 0 := Nat.eq_of_beq_eq_true ho
  subst ho
  obtain ⟨b, o, us, h1, h2, h3, h4⟩ := hd
  exact ⟨b, o, us, h1, h2, den_reads (decT_den h (enc_den h3)), h4⟩
theorem decP_velt {t : Ty} {v : AV} {x : t.den} (h : decP t v = some x) : ownsOf v = [] := by
  cases v <;> simp only [decP, reduceCtorEq] at h
  rfl
theorem decSh_f {n : Nat} {v : AV} {x : (Sh.f n).den} (h : decSh (.f n) v = some x) : v = .fn n := by
  cases v <;> simp only [decSh, reduceCtorEq] at h
  rename_i m
  cases hm : Nat.beq m n <;> rw [hm] at h <;> simp only [cond_true, cond_false, reduceCtorEq] at h
  rw [Nat.eq_of_beq_eq_true hm]
theorem decSh_c1 {n : Nat} {t : Ty} {v : AV} {x : (Sh.c1 n t).den} (h : decSh (.c1 n t) v = some x) : ∃ a, v = .clo n [a] ∧ decP t a = some x := by
  change decC1 n t v = some x at h
  unfold decC1 at h
  split at h
  rotate_left
  · simp at h
  rename_i m a
  cases hm : Nat.beq m n <;> rw [hm] at h <;> simp only [cond_true, cond_false, reduceCtorEq] at h
  exact ⟨a, by rw [Nat.eq_of_beq_eq_true hm], h⟩
theorem decSh_c2 {n : Nat} {t t2 : Ty} {v : AV} {x : (Sh.c2 n t t2).den} (h : decSh (.c2 n t t2) v = some x) : ∃ a b, v = .clo n [a, b] ∧ decP t a = some x.1 ∧ decP t2 b = some x.2 := by
  change decC2 n t t2 v = some x at h
  unfold decC2 at h
  split at h
  rotate_left
  · simp at h
  rename_i m a b
  cases hm : Nat.beq m n <;> rw [hm] at h <;> simp only [cond_true, cond_false, reduceCtorEq] at h
  split at h
  · rename_i y z h1 h2
    simp only [Option.some.injEq] at h
    subst h
    exact ⟨a, b, by rw [Nat.eq_of_beq_eq_true hm], h1, h2⟩
  · simp at h
theorem decSh_den {s : Sh} {v : AV} {x : s.den} {r : Value} (hs : (∀ t, s ≠ .ov t) ∧ ∀ t, s ≠ .os t) (h : decSh s v = some x) (hd : Den c v r) : Den c (encSh s x) r := by
  cases s with
  | ov t => exact absurd rfl (hs.1 t)
  | os t => exact absurd rfl (hs.2 t)
  | f n => rw [decSh_f h] at hd; exact hd
  | c1 n t =>
    obtain ⟨a, rfl, h1⟩ := decSh_c1 h
    obtain ⟨vs, g1, r1, _, rfl, g2, g3⟩ := hd
    exact ⟨_, g1, r1, _, rfl, decP_den h1 g2, g3⟩
  | c2 n t t2 =>
    obtain ⟨a, b, rfl, h1, h2⟩ := decSh_c2 h
    obtain ⟨vs, g1, r1, _, rfl, g2, r2, _, rfl, g3, g4⟩ := hd
    exact ⟨_, g1, r1, _, rfl, decP_den h1 g2, r2, _, rfl, decP_den h2 g3, g4⟩
  | v t =>
    change (bif Nat.beq t.size 1 then decT t [v] else none) = some x at h
    by_cases ht : t.size = 1
    · rw [show Nat.beq t.size 1 = true by rw [ht]; rfl] at h
      have := decT_den h (⟨r, [], rfl, hd, rfl⟩ : DenL c [v] [r])
      rw [enc_one_cell ht] at this
      obtain ⟨r', _, hr, g, _⟩ := this
      simp only [List.cons.injEq] at hr
      obtain ⟨rfl, _⟩ := hr
      exact g
    · rw [nbeq_ne ht] at h
      simp at h
  | s t =>
    cases v <;> simp only [decSh, reduceCtorEq] at h
    obtain ⟨vs, rfl, hds⟩ := hd
    exact ⟨vs, rfl, decT_den h hds⟩
  | p t =>
    cases v <;> simp only [decSh, reduceCtorEq] at h
    rename_i t' y off
    cases ho : Nat.beq off 0 <;> rw [ho] at h <;> simp only [cond_true, cond_false, reduceCtorEq] at h
    have ho : off = 0 := Nat.eq_of_beq_eq_true ho
    subst ho
    obtain ⟨b, o, us, h1, h2, h3, h4⟩ := hd
    exact ⟨b, o, us, h1, h2, den_reads (decT_den h (enc_den h3)), h4⟩
/-- No shape of a row of its own. -/
def noOwn : List Sh → Bool
  | [] => true
  | .ov _ :: _ => false
  | .os _ :: _ => false
  | _ :: l => noOwn l
theorem noOwn_cons {s : Sh} {l : List Sh} (h : noOwn (s :: l) = true) : ((∀ t, s ≠ .ov t) ∧ ∀ t, s ≠ .os t) ∧ noOwn l = true := by
  cases s <;> simp [noOwn] at h <;> simpa using h
theorem decA_den : ∀ {l : List Sh} {as : List AV} {x : Args l} {vs : List Value}, noOwn l = true → decA l as = some x → DenL c as vs → DenL c (encA l x) vs
  | [], [], x, vs, _, h, hd => hd
  | [], _ :: _, x, vs, _, h, hd => by simp [decA] at h
  | _ :: _, [], x, vs, _, h, hd => by simp [decA] at h
  | s :: l, v :: as, x, vs, hno, h, hd => by
    have hno := noOwn_cons hno
    simp only [decA] at h
    split at h
    · rename_i y z h1 h2
      simp only [Option.some.injEq] at h
      subst h
      obtain ⟨r, vs', rfl, g1, g2⟩ := hd
      exact ⟨r, vs', rfl, decSh_den hno.1 h1 g1, decA_den hno.2 h2 g2⟩
    · simp at h
theorem decSh_lent {m : Nat} {s : Sh} {v : AV} {x : s.den} (h : decSh s v = some x) : (∀ r, Den c (rowed m v) r → Den c (rowed m (encSh s x)) r) ∧ ownsOf v = ownsOf (encSh s x) ∧ (encSh s x).names = [] := by
  cases s with
  | v t =>
    have h' := h
    change (bif Nat.beq t.size 1 then decT t [v] else none) = some x at h
    by_cases ht : t.size = 1
    · rw [show Nat.beq t.size 1 = true by rw [ht]; rfl] at h
      have ho := decT_owns h
      have ho : ownsOf v = [] := by simpa [ownsOf.ownsL] using ho
      have he := enc_owns t x
      rw [enc_one_cell ht] at he
      have he : ownsOf (encV t x) = [] := by simpa [ownsOf.ownsL] using he
      have hn := enc_names t x
      rw [enc_one_cell ht] at hn
      have hn : (encV t x).names = [] := by simpa [AV.names.namesL] using hn
      refine ⟨fun r hd => ?_, by rw [ho]; exact he.symm, hn⟩
      rw [rowed_none ho] at hd
      show Den c (rowed m (encV t x)) r
      rw [rowed_none he]
      exact decSh_den (s := .v t) ⟨by simp, by simp⟩ h' hd
    · rw [nbeq_ne ht] at h
      simp at h
  | s t =>
    have h' := h
    cases v <;> simp only [decSh, reduceCtorEq] at h
    rename_i cs
    have ho : ownsOf (.agg cs) = [] := decT_owns h
    have he : ownsOf (encS t x) = [] := enc_owns t x
    refine ⟨fun r hd => ?_, by rw [ho]; exact he.symm, enc_names t x⟩
    rw [rowed_none ho] at hd
    show Den c (rowed m (encS t x)) r
    rw [rowed_none he]
    exact decSh_den (s := .s t) ⟨by simp, by simp⟩ h' hd
  | p t =>
    have h' := h
    cases v <;> simp only [decSh, reduceCtorEq] at h
    exact ⟨fun r hd => decSh_den (s := .p t) ⟨by simp, by simp⟩ h' hd, rfl, rfl⟩
  | ov t =>
    change (bif Nat.beq t.size 1 then decO t [v] else none) = some x at h
    by_cases ht : t.size = 1
    · rw [show Nat.beq t.size 1 = true by rw [ht]; rfl] at h
      have ho := decO_owns h
      have hn := encO_names t x
      rw [encO_one_cell ht] at ho hn
      have ho : ownsOf v = ownsOf ((encO t x).headD .unk) := by simpa only [ownsOf.ownsL, List.append_nil] using ho
      have hn : ((encO t x).headD .unk).names = [] := by simpa only [AV.names.namesL, List.append_nil] using hn
      refine ⟨fun r hd => ?_, ho, hn⟩
      have := decO_den (m := m) h (⟨r, [], rfl, hd, rfl⟩ : DenL c (rowed.rowedL m [v]) [r])
      rw [encO_one_cell ht] at this
      obtain ⟨r', _, hr, g, _⟩ := this
      simp only [List.cons.injEq] at hr
      obtain ⟨rfl, _⟩ := hr
      exact g
    · rw [nbeq_ne ht] at h
      simp at h
  | f n =>
    rw [decSh_f h]
    exact ⟨fun r hd => hd, rfl, rfl⟩
  | c1 n t =>
    have h' := h
    obtain ⟨a, rfl, h1⟩ := decSh_c1 h
    have ho : ownsOf (.clo n [a]) = [] := by simp [ownsOf, ownsOf.ownsL, decP_velt h1]
    refine ⟨fun r hd => ?_, by rw [ho]; rfl, rfl⟩
    rw [rowed_none ho] at hd
    exact decSh_den (s := .c1 n t) ⟨by simp, by simp⟩ h' hd
  | c2 n t t2 =>
    have h' := h
    obtain ⟨a, b, rfl, h1, h2⟩ := decSh_c2 h
    have ho : ownsOf (.clo n [a, b]) = [] := by simp [ownsOf, ownsOf.ownsL, decP_velt h1, decP_velt h2]
    refine ⟨fun r hd => ?_, by rw [ho]; rfl, rfl⟩
    rw [rowed_none ho] at hd
    exact decSh_den (s := .c2 n t t2) ⟨by simp, by simp⟩ h' hd
  | os t =>
    cases v <;> simp only [decSh, reduceCtorEq] at h
    rename_i cs
    refine ⟨fun r hd => ?_, decO_owns h, encO_names t x⟩
    obtain ⟨vs, rfl, hds⟩ := hd
    exact ⟨vs, rfl, decO_den h hds⟩
theorem decA_lent {m : Nat} : ∀ {l : List Sh} {as : List AV} {x : Args l}, decA l as = some x → (∀ vs, DenL c (rowed.rowedL m as) vs → DenL c (rowed.rowedL m (encA l x)) vs) ∧ ownsOf.ownsL as = ownsOf.ownsL (encA l x) ∧ AV.names.namesL (encA l x) = []
  | [], [], x, h => ⟨fun _ h => h, rfl, rfl⟩
  | [], _ :: _, x, h => by simp [decA] at h
  | _ :: _, [], x, h => by simp [decA] at h
  | s :: l, v :: as, x, h => by
    simp only [decA] at h
    split at h
    · rename_i y z h1 h2
      simp only [Option.some.injEq] at h
      subst h
      obtain ⟨a1, a2, a3⟩ := decSh_lent (c := c) (m := m) h1
      obtain ⟨b1, b2, b3⟩ := decA_lent (m := m) h2
      refine ⟨fun vs hd => ?_, ?_, ?_⟩
      · obtain ⟨r, vs', rfl, g1, g2⟩ := hd
        exact ⟨r, vs', rfl, a1 r g1, b1 vs' g2⟩
      · simp only [ownsOf.ownsL, encA, a2, b2]
      · simp only [AV.names.namesL, encA, a3, b3, List.append_nil]
    · simp at h
theorem lent_typed {w : World} {u : Value} {l : List Sh} {as : List AV} {x : Args l} {vs : List Value} (hx : decA l as = some x) (h : Lent w u as vs) : Lent w u (encA l x) vs := by
  obtain ⟨_, b2, b3⟩ := decA_lent (c := lentCx w u) (m := BR) hx
  refine ⟨(decA_lent hx).1 vs h.den, fun t xs he => h.row t xs (by rw [b2]; exact he), fun he => h.none (by rw [b2]; exact he), by rw [← b2]; exact h.one, b3⟩
end
/-- A contract over typed data. -/
def ctOf (l : List Sh) (pre : Args l → Nd) (val : Args l → AV) : Ct := .rd fun as =>
  match decA l as with
  | some x => bif noOwn l then some (pre x, val x) else none
  | none => none
def ctOfW (l : List Sh) (pre : Args l → Nd) (val : Args l → AV) (own : Args l → OwnD) : Ct := .wt fun as =>
  match decA l as with
  | some x => some (pre x, val x, own x)
  | none => none
def ctOfM (l : List Sh) (pre : Args l → Nd) (val : Args l → AV) : Ct := .mv fun as =>
  match decA l as with
  | some x => some (pre x, val x)
  | none => none
/-- The row among the arguments. -/
def ownA (l : List Sh) (x : Args l) : OwnD := (ownsOf.ownsL (encA l x)).headD ⟨.bool, []⟩
/-- Two values that say the same. -/
def AV.same : AV → AV → Prop
  | .int k n, .int k' m => k = k' ∧ n = m
  | .bool b, .bool c => b = c
  | .lit b, .bool c => b = c
  | .str s, .str t => s = t
  | .nilS, .nilS => True
  | .nilS, .own _ xs => xs = []
  | .nilS, .view _ xs => xs = []
  | .empS, .view _ xs => xs = []
  | .view t xs, .view t' ys => (⟨t, xs⟩ : OwnD) = ⟨t', ys⟩
  | .own t xs, .own t' ys => (⟨t, xs⟩ : OwnD) = ⟨t', ys⟩
  | .agg xs, .agg ys => sameL xs ys
  | .tup xs, .tup ys => sameL xs ys
  | _, _ => False
where sameL : List AV → List AV → Prop
  | [], [] => True
  | x :: xs, y :: ys => x.same y ∧ sameL xs ys
  | _, _ => False
/-- What two values that say the same bring along. -/
structure SameOwns (a b : List OwnD) : Prop where
  le : a.length ≤ b.length
  eq : a.length = b.length → b = a
  nil : a = [] → ∀ o ∈ b, o.xs = []
theorem SameOwns.rfl' {a : List OwnD} : SameOwns a a := ⟨Nat.le_refl _, fun _ => rfl, fun h => by simp [h]⟩
theorem SameOwns.append {a b a' b' : List OwnD} (h : SameOwns a b) (h' : SameOwns a' b') : SameOwns (a ++ a') (b ++ b') := by
  have := h.le
  have := h'.le
  refine ⟨by simp; omega, fun he => ?_, fun he o ho => ?_⟩
  · simp only [List.length_append] at he
    rw [h.eq (by omega), h'.eq (by omega)]
  · simp only [List.append_eq_nil_iff] at he
    rcases List.mem_append.1 ho with ho | ho
    · exact h.nil he.1 o ho
    · exact h'.nil he.2 o ho
mutual
theorem same_owns : ∀ {x y : AV}, x.same y → SameOwns (ownsOf x) (ownsOf y)
  | .int _ _, y, h => by cases y <;> simp only [AV.same] at h; exact .rfl'
  | .bool _, y, h => by cases y <;> simp only [AV.same] at h; exact .rfl'
  | .lit _, y, h => by cases y <;> simp only [AV.same] at h; exact .rfl'
  | .str _, y, h => by cases y <;> simp only [AV.same] at h; exact .rfl'
  | .own t xs, y, h => by
    cases y <;> simp only [AV.same] at h
    simp only [ownsOf, h]; exact .rfl'
  | .nilS, y, h => by
    cases y <;> simp only [AV.same] at h
    · exact .rfl'
    · subst h; exact ⟨by simp [ownsOf], by simp [ownsOf], fun _ o ho => by simp only [ownsOf, List.mem_singleton] at ho; subst ho; rfl⟩
    · exact .rfl'
  | .agg xs, y, h => by cases y <;> simp only [AV.same] at h; exact sameL_owns h
  | .tup xs, y, h => by cases y <;> simp only [AV.same] at h; exact sameL_owns h
  | .undef, y, h => by cases y <;> simp only [AV.same] at h
  | .unk, y, h => by cases y <;> simp only [AV.same] at h
  | .fn _, y, h => by cases y <;> simp only [AV.same] at h
  | .ptr _ _, y, h => by cases y <;> simp only [AV.same] at h
  | .elt _ _ _ _, y, h => by cases y <;> simp only [AV.same] at h
  | .part _ _ _ _, y, h => by cases y <;> simp only [AV.same] at h
  | .inr _ _, y, h => by cases y <;> simp only [AV.same] at h
  | .velt _ _ _, y, h => by cases y <;> simp only [AV.same] at h
  | .view _ _, y, h => by cases y <;> simp only [AV.same] at h; exact .rfl'
  | .row _, y, h => by cases y <;> simp only [AV.same] at h
  | .empS, y, h => by cases y <;> simp only [AV.same] at h; exact .rfl'
  | .guess _, y, h => by cases y <;> simp only [AV.same] at h
  | .clo _ _, y, h => by cases y <;> simp only [AV.same] at h
theorem sameL_owns : ∀ {xs ys : List AV}, AV.same.sameL xs ys → SameOwns (ownsOf.ownsL xs) (ownsOf.ownsL ys)
  | [], [], _ => .rfl'
  | [], _ :: _, h => by simp only [AV.same.sameL] at h
  | _ :: _, [], h => by simp only [AV.same.sameL] at h
  | x :: xs, y :: ys, h => by
    simp only [AV.same.sameL] at h
    exact (same_owns h.1).append (sameL_owns h.2)
end
mutual
theorem same_den {c c' : Cx} (hok : ∀ b, c.ok b → c'.ok b) (hw : c'.w = c.w) : ∀ {x y : AV} {r : Value}, x.same y → (ownsOf x ≠ [] → c'.dom 0 ∧ c'.ref 0 = c.ref 0) → ((ownsOf x).length < (ownsOf y).length → c'.dom 0 ∧ headV (c'.ref 0) = .slice none 0 0) → Den c (rowed 0 x) r → Den c' (rowed 0 y) r
  | .int _ _, y, r, h, _, _, hd => by cases y <;> simp only [AV.same] at h; obtain ⟨rfl, rfl⟩ := h; exact hd
  | .bool _, y, r, h, _, _, hd => by cases y <;> simp only [AV.same] at h; subst h; exact hd
  | .lit _, y, r, h, _, _, hd => by cases y <;> simp only [AV.same] at h; subst h; exact hd
  | .str _, y, r, h, _, _, hd => by cases y <;> simp only [AV.same] at h; subst h; exact hd
  | .own t xs, y, r, h, h1, _, hd => by
    cases y <;> simp only [AV.same] at h
    obtain ⟨g1, g2⟩ := h1 (by simp [ownsOf])
    exact ⟨g1, by rw [g2]; exact hd.2.1, hd.2.2⟩
  | .nilS, y, r, h, _, h2, hd => by
    cases y <;> simp only [AV.same] at h
    · subst h
      have hd : r = .slice none 0 0 := hd
      subst hd
      exact ⟨none, 0, rfl, Nat.le_refl _, .inl rfl⟩
    · obtain ⟨g1, g2⟩ := h2 (by simp [ownsOf])
      have hd : r = .slice none 0 0 := hd
      exact ⟨g1, by rw [g2]; exact hd, none, 0, 0, hd⟩
    · exact hd
  | .agg xs, y, r, h, h1, h2, hd => by
    cases y <;> simp only [AV.same] at h
    obtain ⟨vs, e, hds⟩ := hd
    exact ⟨vs, e, sameL_den hok hw h h1 h2 hds⟩
  | .tup xs, y, r, h, h1, h2, hd => by
    cases y <;> simp only [AV.same] at h
    obtain ⟨vs, e, hds⟩ := hd
    exact ⟨vs, e, sameL_den hok hw h h1 h2 hds⟩
  | .undef, y, r, h, _, _, _ => by cases y <;> simp only [AV.same] at h
  | .unk, y, r, h, _, _, _ => by cases y <;> simp only [AV.same] at h
  | .fn _, y, r, h, _, _, _ => by cases y <;> simp only [AV.same] at h
  | .ptr _ _, y, r, h, _, _, _ => by cases y <;> simp only [AV.same] at h
  | .elt _ _ _ _, y, r, h, _, _, _ => by cases y <;> simp only [AV.same] at h
  | .part _ _ _ _, y, r, h, _, _, _ => by cases y <;> simp only [AV.same] at h
  | .inr _ _, y, r, h, _, _, _ => by cases y <;> simp only [AV.same] at h
  | .velt _ _ _, y, r, h, _, _, _ => by cases y <;> simp only [AV.same] at h
  | .view t xs, y, r, h, _, _, hd => by
    cases y <;> simp only [AV.same] at h
    injection h with e1 e2
    subst e1
    simp only [heq_eq_eq] at e2
    subst e2
    show Reads c'.w c'.ok _ _ _
    rw [hw]
    exact Reads.mono hok (fun _ _ _ => rfl) hd
  | .row _, y, r, h, _, _, _ => by cases y <;> simp only [AV.same] at h
  | .empS, y, r, h, _, _, hd => by
    cases y <;> simp only [AV.same] at h
    subst h
    obtain ⟨ad, hd⟩ := hd
    exact ⟨ad, 0, by rw [hd]; rfl, Nat.le_refl _, .inl rfl⟩
  | .guess _, y, r, h, _, _, _ => by cases y <;> simp only [AV.same] at h
  | .clo _ _, y, r, h, _, _, _ => by cases y <;> simp only [AV.same] at h
theorem sameL_den {c c' : Cx} (hok : ∀ b, c.ok b → c'.ok b) (hw : c'.w = c.w) : ∀ {xs ys : List AV} {rs : List Value}, AV.same.sameL xs ys → (ownsOf.ownsL xs ≠ [] → c'.dom 0 ∧ c'.ref 0 = c.ref 0) → ((ownsOf.ownsL xs).length < (ownsOf.ownsL ys).length → c'.dom 0 ∧ headV (c'.ref 0) = .slice none 0 0) →
    DenL c (rowed.rowedL 0 xs) rs → DenL c' (rowed.rowedL 0 ys) rs
  | [], [], _, _, _, _, hd => hd
  | [], _ :: _, _, h, _, _, _ => by simp only [AV.same.sameL] at h
  | _ :: _, [], _, h, _, _, _ => by simp only [AV.same.sameL] at h
  | x :: xs, y :: ys, _, h, h1, h2, hd => by
    simp only [AV.same.sameL] at h
    obtain ⟨r, rs', rfl, g1, g2⟩ := hd
    have l1 := (same_owns h.1).le
    have l2 := (sameL_owns h.2).le
    refine ⟨r, rs', rfl, same_den hok hw h.1 (fun hne => h1 ?_) (fun hlt => h2 ?_) g1, sameL_den hok hw h.2 (fun hne => h1 ?_) (fun hlt => h2 ?_) g2⟩
    · simp only [ownsOf.ownsL, ne_eq, List.append_eq_nil_iff, not_and]; exact fun h => absurd h hne
    · simp only [ownsOf.ownsL, List.length_append]; omega
    · simp only [ownsOf.ownsL, ne_eq, List.append_eq_nil_iff, not_and]; exact fun _ h => absurd h hne
    · simp only [ownsOf.ownsL, List.length_append]; omega
end
theorem gives_sameU {n : Base} {w : World} {v v' : AV} {r u : Value} (h : GivesU n w v r u) (hs : v.same v') (h1 : (ownsOf v').length ≤ 1) : ∃ u2, GivesU n w v' r u2 ∧ ∀ b, Owns u2 b → Owns u b := by
  obtain ⟨hd, hu, hB⟩ := h
  have so := same_owns hs
  have hle := so.le
  by_cases hv : ownsOf v = []
  · by_cases hv' : ownsOf v' = []
    · exact ⟨u, ⟨same_den (c := resCx n w u (ownsOf v ≠ [])) (c' := resCx n w u (ownsOf v' ≠ [])) (fun _ h => h) rfl hs (fun h => absurd hv h) (fun h => by rw [hv, hv'] at h; simp at h) hd, fun _ => hu hv, fun t xs he => by rw [hv'] at he; simp at he⟩, fun _ h => h⟩
    · obtain ⟨o, ho⟩ : ∃ o, ownsOf v' = [o] := by
        match hx : ownsOf v', h1 with
        | [], _ => exact absurd hx hv'
        | [o], _ => exact ⟨o, rfl⟩
      refine ⟨nilRef o.t, ⟨same_den (c := resCx n w u (ownsOf v ≠ [])) (c' := resCx n w (nilRef o.t) (ownsOf v' ≠ [])) (fun b hb => ⟨hb.1, hb.2.1, nilRef_owns⟩) rfl hs (fun h => absurd hv h) (fun _ => ⟨⟨rfl, hv'⟩, nilRef_head _⟩) hd, fun he => absurd he hv', fun t xs he => ?_⟩, fun b hb => absurd hb nilRef_owns⟩
      have hx : xs = [] := so.nil hv ⟨t, xs⟩ (by rw [he]; simp)
      rw [he] at ho
      simp only [List.cons.injEq, and_true] at ho
      subst ho hx
      exact nilRef_row
  · have hlen : (ownsOf v).length = (ownsOf v').length := by
      have : 0 < (ownsOf v).length := List.length_pos_iff.2 hv
      omega
    have he := so.eq hlen
    exact ⟨u, ⟨same_den (c := resCx n w u (ownsOf v ≠ [])) (c' := resCx n w u (ownsOf v' ≠ [])) (fun _ h => h) rfl hs (fun h => ⟨⟨rfl, by rw [he]; exact h⟩, rfl⟩) (fun h => by omega) hd, fun h => hu (by rw [← he]; exact h), fun t xs h => hB t xs (by rw [← he]; exact h)⟩, fun _ h => h⟩
theorem gives_same {n : Base} {w : World} {v v' : AV} {r : Value} (h : Gives n w v r) (hs : v.same v') (h1 : (ownsOf v').length ≤ 1) : Gives n w v' r := by
  obtain ⟨u, h⟩ := h
  obtain ⟨u2, h2, _⟩ := gives_sameU (u := u) h hs h1
  exact ⟨u2, h2⟩
section
variable {P : Program} {C : FuncId → Option Ct} {wr : Bool} {L : Nat → Option LAnn}
theorem sat_typedG {f : FuncId} {fn : Func} {l : List Sh} {pre : Args l → Nd} {val : Args l → AV} (hm : P.follows .mixedOrders = true) (hf : P.funcs[f]? = some fn) (hC : ∀ f ct, C f = some ct → Sat P f ct) (hL : ∀ c, fn.body = some c → LoopsOk P L fn.ntmps c)
    (h1 : ∀ x, (ownsOf (val x)).length ≤ 1) {fz : Bool} (h : ∀ x, (pre x).ok → (exFunc P C wr L fn (encA l x) fz).ok fun vs => (packAV vs).same (val x)) : Sat P f (ctOf l pre val) := by
  intro args p v hct hp w okc vs hgood hd
  simp only at hct
  split at hct
  · rename_i x hx
    cases hno : noOwn l <;> rw [hno] at hct <;> simp only [cond_true, cond_false, Option.some.injEq, Prod.mk.injEq, reduceCtorEq] at hct
    obtain ⟨rfl, rfl⟩ := hct
    refine (calls_of_tree hm hf hC hL (h x hp) okc hgood (decA_den hno hx hd)).mono ?_
    rintro e w' ⟨r, rfl, ys, hs, hg, hb⟩
    exact ⟨r, rfl, gives_same hg hs (h1 x), hb⟩
  · simp at hct
theorem sat_typed {f : FuncId} {fn : Func} {l : List Sh} {pre : Args l → Nd} {val : Args l → AV} (hm : P.follows .mixedOrders = true) (hf : P.funcs[f]? = some fn) (hC : ∀ f ct, C f = some ct → Sat P f ct) (hL : ∀ c, fn.body = some c → LoopsOk P L fn.ntmps c)
    (h1 : ∀ x, (ownsOf (val x)).length ≤ 1) (h : ∀ x, (pre x).ok → (exFunc P C wr L fn (encA l x)).ok fun vs => (packAV vs).same (val x)) : Sat P f (ctOf l pre val) :=
  sat_typedG hm hf hC hL h1 h
theorem sat_typedF {f : FuncId} {fn : Func} {l : List Sh} {pre : Args l → Nd} {val : Args l → AV} (hm : P.follows .mixedOrders = true) (hf : P.funcs[f]? = some fn) (hC : ∀ f ct, C f = some ct → Sat P f ct) (hL : ∀ c, fn.body = some c → LoopsOk P L fn.ntmps c)
    (h1 : ∀ x, (ownsOf (val x)).length ≤ 1) (h : ∀ x, (pre x).ok → (exFunc P C wr L fn (encA l x) true).ok fun vs => (packAV vs).same (val x)) : Sat P f (ctOf l pre val) :=
  sat_typedG hm hf hC hL h1 h
theorem sat_typedW {f : FuncId} {fn : Func} {l : List Sh} {pre : Args l → Nd} {val : Args l → AV} {own : Args l → OwnD} (hm : P.follows .mixedOrders = true) (hf : P.funcs[f]? = some fn) (hC : ∀ f ct, C f = some ct → Sat P f ct) (hL : ∀ c, fn.body = some c → LoopsOk P L fn.ntmps c)
    (h1 : ∀ x, ownsOf.ownsL (encA l x) = [ownA l x]) (h : ∀ x, (pre x).ok → (exFuncW P C wr L fn true (rowed.rowedL BR (encA l x)) (ownA l x)).ok fun y => (packAV y.1).same (val x) ∧ y.2 = some (own x)) : Sat P f (ctOfW l pre val own) := by
  intro args p v o hct hp w vs u hgood hd
  simp only at hct
  split at hct
  · rename_i x hx
    simp only [Option.some.injEq, Prod.mk.injEq] at hct
    obtain ⟨rfl, rfl, rfl⟩ := hct
    have hd' := lent_typed hx hd
    refine (calls_of_treeW hm hf hC hL (h x hp) hgood hd'.den (hd'.row _ _ (h1 x))).mono ?_
    rintro e w' ⟨r, rfl, y, ⟨hs, hy⟩, ⟨hg, o, ho, hB⟩, hb⟩
    rw [hy] at ho
    simp only [Option.some.injEq] at ho
    subst ho
    refine ⟨r, rfl, fun hpl => gives_same hg hs ?_, fun _ => hB, hb⟩
    simp only [plain, Bool.and_eq_true, List.isEmpty_iff] at hpl
    rw [hpl.1]; simp
  · simp at hct
theorem sat_typedM {f : FuncId} {fn : Func} {l : List Sh} {pre : Args l → Nd} {val : Args l → AV} (hm : P.follows .mixedOrders = true) (hf : P.funcs[f]? = some fn) (hC : ∀ f ct, C f = some ct → Sat P f ct) (hL : ∀ c, fn.body = some c → LoopsOk P L fn.ntmps c)
    (h1 : ∀ x, ownsOf.ownsL (encA l x) = [ownA l x] ∧ (ownsOf (val x)).length ≤ 1) (h : ∀ x, (pre x).ok → (exFuncW P C wr L fn false (rowed.rowedL BR (encA l x)) (ownA l x)).ok fun y => (packAV y.1).same (val x)) : Sat P f (ctOfM l pre val) := by
  intro args p v hct hp w vs u hgood hd
  simp only at hct
  split at hct
  · rename_i x hx
    simp only [Option.some.injEq, Prod.mk.injEq] at hct
    obtain ⟨rfl, rfl⟩ := hct
    have hd' := lent_typed hx hd
    refine (calls_of_treeW hm hf hC hL (h x hp) hgood hd'.den (hd'.row _ _ (h1 x).1)).mono ?_
    rintro e w' ⟨r, rfl, y, hs, hg, hb⟩
    exact ⟨r, rfl, gives_same hg hs (h1 x).2, hb⟩
  · simp at hct
end
section
variable {P : Program} {C : FuncId → Option Ct} {wr : Bool} {L : Nat → Option LAnn}
def ctOfB (t : Ty) (l : List Sh) (pre : t.den → Args l → Nd) (val : t.den → Args l → AV) (new : t.den → Args l → t.den) : Ct := .bx fun d as =>
  match decT t (enc d.t d.x), decA l as with
  | some x, some y => bif noOwn l then some (pre x y, val x y, ⟨t, new x y⟩) else none
  | _, _ => none
def ctOfN (l : List Sh) (pre : Args l → Nd) (t : Ty) (new : Args l → t.den) : Ct := .nb fun as =>
  match decA l as with
  | some y => bif noOwn l then some (pre y, ⟨t, new y⟩) else none
  | none => none
theorem sat_typedB {f : FuncId} {fn : Func} {t : Ty} {l : List Sh} {pre : t.den → Args l → Nd} {val : t.den → Args l → AV} {new : t.den → Args l → t.den} (hm : P.follows .mixedOrders = true) (hf : P.funcs[f]? = some fn) (hC : ∀ f ct, C f = some ct → Sat P f ct) (hL : ∀ c, fn.body = some c → LoopsOk P L fn.ntmps c)
    (h1 : ∀ x y, (ownsOf (val x y)).length ≤ 1) (h : ∀ x y, (pre x y).ok → (exFuncB P C wr L fn (encA l y) ⟨t, x⟩).ok fun z => (packAV z.1).same (val x y) ∧ z.2 = ⟨t, new x y⟩) : Sat P f (ctOfB t l pre val new) := by
  intro d args p v d' hct hp w okc vs u hgood hB hd
  simp only at hct
  split at hct
  · rename_i x y hx hy
    cases hno : noOwn l <;> rw [hno] at hct <;> simp only [cond_true, cond_false, Option.some.injEq, Prod.mk.injEq, reduceCtorEq] at hct
    obtain ⟨rfl, rfl, rfl⟩ := hct
    have hB' : BlkDen (lentCo w u okc) (lentBo w u okc) u (.box (enc t x)) := by
      obtain ⟨b, zs, ty, g1, g2, g3, g4⟩ := hB
      exact ⟨b, zs, ty, g1, g2, g3, decT_den hx g4⟩
    refine (calls_of_treeB hm hf hC hL (h x y hp) hgood (decA_den hno hy hd) hB').mono ?_
    rintro e w' ⟨r, rfl, z, ⟨hs, hz⟩, ⟨u', hg, hB2⟩, hb⟩
    obtain ⟨u2, hg2, hub⟩ := gives_sameU hg hs (h1 x y)
    refine ⟨r, rfl, u2, fun _ => hg2, ?_, hb⟩
    rw [hz] at hB2
    obtain ⟨b, zs, ty, g1, g2, g3, g4⟩ := hB2
    have hok : ∀ b', (afterCo w w' u u' okc).ok b' → (afterCo w w' u u2 okc).ok b' := fun b' hb' => ⟨hb'.1, hb'.2.1, hb'.2.2.1, fun hx => hb'.2.2.2 (hub b' hx)⟩
    exact ⟨b, zs, ty, g1, g2, g3, DenL.free hok (fun _ _ _ => rfl) (enc_nameless _ _) g4⟩
  · simp at hct
theorem sat_typedN {f : FuncId} {fn : Func} {l : List Sh} {pre : Args l → Nd} {t : Ty} {new : Args l → t.den} (hm : P.follows .mixedOrders = true) (hf : P.funcs[f]? = some fn) (hC : ∀ f ct, C f = some ct → Sat P f ct) (hL : ∀ c, fn.body = some c → LoopsOk P L fn.ntmps c)
    (h : ∀ y, (pre y).ok → (exFuncN P C wr L fn (encA l y)).ok fun z => z = ⟨t, new y⟩) : Sat P f (ctOfN l pre t new) := by
  intro args p d hct hp w okc vs hgood hd
  simp only at hct
  split at hct
  · rename_i y hy
    cases hno : noOwn l <;> rw [hno] at hct <;> simp only [cond_true, cond_false, Option.some.injEq, Prod.mk.injEq, reduceCtorEq] at hct
    obtain ⟨rfl, rfl⟩ := hct
    refine (calls_of_treeN hm hf hC hL (h y hp) okc hgood (decA_den hno hy hd)).mono ?_
    rintro e w' ⟨r, rfl, d, rfl, hB, hb⟩
    exact ⟨r, rfl, hB, hb⟩
  · simp at hct
theorem tyd_inj {t : Ty} {x y : t.den} : ((⟨t, x⟩ : TyD) = ⟨t, y⟩) = (x = y) := by simp
end
/-! ### recursion: a contract for calls of a measure below a number, for every number -/
section
variable {P : Program} {f : FuncId} {l : List Sh} {q : Args l → Prop} {m : Args l → Nat} {val : Args l → AV} {own : Args l → OwnD}
theorem sat_zero : Sat P f (ctOf l (fun x => .p (q x ∧ m x < 0)) val) := by
  intro args p v hct hp
  simp only at hct
  split at hct
  · rename_i x hx
    cases hno : noOwn l <;> rw [hno] at hct <;> simp only [cond_true, cond_false, Option.some.injEq, Prod.mk.injEq, reduceCtorEq] at hct
    obtain ⟨rfl, rfl⟩ := hct
    exact absurd hp.2 (Nat.not_lt_zero _)
  · simp at hct
theorem sat_zeroW : Sat P f (ctOfW l (fun x => .p (q x ∧ m x < 0)) val own) := by
  intro args p v o hct hp
  simp only at hct
  split at hct
  · simp only [Option.some.injEq, Prod.mk.injEq] at hct
    obtain ⟨rfl, rfl, rfl⟩ := hct
    exact absurd hp.2 (Nat.not_lt_zero _)
  · simp at hct
theorem sat_zeroM : Sat P f (ctOfM l (fun x => .p (q x ∧ m x < 0)) val) := by
  intro args p v hct hp
  simp only at hct
  split at hct
  · simp only [Option.some.injEq, Prod.mk.injEq] at hct
    obtain ⟨rfl, rfl⟩ := hct
    exact absurd hp.2 (Nat.not_lt_zero _)
  · simp at hct
theorem sat_all (h : ∀ n, Sat P f (ctOf l (fun x => .p (q x ∧ m x < n)) val)) : Sat P f (ctOf l (fun x => .p (q x)) val) := by
  intro args p v hct hp w okc vs hgood hd
  simp only at hct
  split at hct
  · rename_i x hx
    cases hno : noOwn l <;> rw [hno] at hct <;> simp only [cond_true, cond_false, Option.some.injEq, Prod.mk.injEq, reduceCtorEq] at hct
    obtain ⟨rfl, rfl⟩ := hct
    exact h (m x + 1) args (.p (q x ∧ m x < m x + 1)) (val x) (by simp only [hx, hno, cond_true]) ⟨hp, Nat.lt_succ_self _⟩ w okc vs hgood hd
  · simp at hct
theorem sat_allW (h : ∀ n, Sat P f (ctOfW l (fun x => .p (q x ∧ m x < n)) val own)) : Sat P f (ctOfW l (fun x => .p (q x)) val own) := by
  intro args p v o hct hp w vs u hgood hd
  simp only at hct
  split at hct
  · rename_i x hx
    simp only [Option.some.injEq, Prod.mk.injEq] at hct
    obtain ⟨rfl, rfl, rfl⟩ := hct
    exact h (m x + 1) args (.p (q x ∧ m x < m x + 1)) (val x) (own x) (by simp only [hx]) ⟨hp, Nat.lt_succ_self _⟩ w vs u hgood hd
  · simp at hct
theorem sat_allM (h : ∀ n, Sat P f (ctOfM l (fun x => .p (q x ∧ m x < n)) val)) : Sat P f (ctOfM l (fun x => .p (q x)) val) := by
  intro args p v hct hp w vs u hgood hd
  simp only at hct
  split at hct
  · rename_i x hx
    simp only [Option.some.injEq, Prod.mk.injEq] at hct
    obtain ⟨rfl, rfl⟩ := hct
    exact h (m x + 1) args (.p (q x ∧ m x < m x + 1)) (val x) (by simp only [hx]) ⟨hp, Nat.lt_succ_self _⟩ w vs u hgood hd
  · simp at hct
end
/-! ### a table of contracts -/
def noC : FuncId → Option Ct := fun _ => none
def addC (f : FuncId) (ct : Ct) (C : FuncId → Option Ct) : FuncId → Option Ct := fun g => bif Nat.beq g f then some ct else C g
def noL : Nat → Option LAnn := fun _ => none
def addL (id : Nat) (ann : LAnn) (L : Nat → Option LAnn) : Nat → Option LAnn := fun g => bif Nat.beq g id then some ann else L g
def COk (P : Program) (C : FuncId → Option Ct) : Prop := ∀ f ct, C f = some ct → Sat P f ct
theorem noC_ok (P : Program) : COk P noC := fun f ct h => by simp [noC] at h
theorem addC_ok {P : Program} {C : FuncId → Option Ct} {f : FuncId} {ct : Ct} (h : COk P C) (hs : Sat P f ct) : COk P (addC f ct C) := fun g ct' hg => by
  unfold addC at hg
  by_cases he : g = f
  · subst he
    simp only [Nat.beq_refl, cond_true, Option.some.injEq] at hg
    subst hg; exact hs
  · rw [nbeq_ne he] at hg
    exact h g ct' hg
def loopAt (fn : Func) (i : Nat) : Code :=
  match fn.body with
  | some c => (loopsOf c).getD i .skip
  | none => .skip
def loopN (fn : Func) : Nat :=
  match fn.body with
  | some c => (loopsOf c).length
  | none => 0
theorem loops0 {P : Program} {L : Nat → Option LAnn} {fn : Func} (h : loopN fn = 0) : ∀ c, fn.body = some c → LoopsOk P L fn.ntmps c := by
  intro c hc b hb
  simp only [loopN, hc, List.length_eq_zero_iff] at h
  rw [h] at hb
  simp at hb
/-- The loops of a function, one by one. -/
theorem loopsN {P : Program} {L : Nat → Option LAnn} {fn : Func} (h : ∀ i, i < loopN fn → ∀ ann, L (firstId (loopAt fn i)) = some ann → LoopSat P fn.ntmps (loopAt fn i) ann) : ∀ c, fn.body = some c → LoopsOk P L fn.ntmps c := by
  intro c hc b hb ann ha
  obtain ⟨i, hi, rfl⟩ := List.getElem_of_mem hb
  have := h i (by simpa [loopN, hc] using hi) ann
  simp only [loopAt, hc, List.getD, List.getElem?_eq_getElem hi, Option.getD_some] at this
  exact this ha
theorem loopsIn0 {P : Program} {L : Nat → Option LAnn} {nt : Nat} {c : Code} (h : loopsOf c = []) : LoopsOk P L nt c := fun b hb => by rw [h] at hb; simp at hb
theorem loopsIn1 {P : Program} {L : Nat → Option LAnn} {nt : Nat} {c b : Code} (h : loopsOf c = [b]) (hs : ∀ ann, L (firstId b) = some ann → LoopSat P nt b ann) : LoopsOk P L nt c := fun b' hb => by
  rw [h] at hb
  simp only [List.mem_singleton] at hb
  subst hb; exact hs
def LoopsL (P : Program) (L : Nat → Option LAnn) (nt : Nat) (bs : List Code) : Prop := ∀ b ∈ bs, ∀ ann, L (firstId b) = some ann → LoopSat P nt b ann
theorem LoopsL.nil {P : Program} {L : Nat → Option LAnn} {nt : Nat} : LoopsL P L nt [] := fun b hb => by simp at hb
theorem LoopsL.cons {P : Program} {L : Nat → Option LAnn} {nt : Nat} {b : Code} {bs : List Code} (hs : ∀ ann, L (firstId b) = some ann → LoopSat P nt b ann) (h : LoopsL P L nt bs) : LoopsL P L nt (b :: bs) := fun b' hb => by
  rcases List.mem_cons.1 hb with rfl | hb
  · exact hs
  · exact h b' hb
theorem loopsInL {P : Program} {L : Nat → Option LAnn} {nt : Nat} {c : Code} {bs : List Code} (h : loopsOf c = bs) (hs : LoopsL P L nt bs) : LoopsOk P L nt c := fun b' hb => by rw [h] at hb; exact hs b' hb
/-- A mark: rows of rows are made. -/
def ctDeep : Ct := .rd fun _ => none
theorem sat_deep {P : Program} : Sat P 900000000 ctDeep := fun args p v h => by simp at h
end Sx
end Go.Proofs.Ytemlpimibhijoaa
