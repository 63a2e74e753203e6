/- Plain laws: texts split at a byte, cut at a byte; numerals read back. Conditions: as each says. -/
import Derived.Test.YtkeckmdmmbeaiaaDoorUaL
import Derived.Lib.Join
import Derived.Lib.Split
import Derived.Lib.IndexMore
import Derived.Lib.ParseIntB
import Derived.Lib.Strings
set_option linter.unusedSimpArgs false
set_option linter.unusedVariables false
namespace Go.Proofs.YtkeckmdmmbeaiaaDoor
open Go.RowKit Sx
abbrev Bs := List UInt8
/-! ### split at a byte -/
def splitC (c : UInt8) : Bs → List Bs
  | [] => [[]]
  | b :: s => if b = c then [] :: splitC c s else match splitC c s with
    | [] => [[b]]
    | w :: ws => (b :: w) :: ws
theorem splitC_ne (c : UInt8) : ∀ s, splitC c s ≠ []
  | [] => by simp [splitC]
  | b :: s => by
    unfold splitC
    split
    · simp
    · split <;> simp
theorem splitC_hit {c : UInt8} (s : Bs) : splitC c (c :: s) = [] :: splitC c s := by
  rw [splitC, if_pos rfl]
theorem splitC_app {c : UInt8} : ∀ (a s : Bs), c ∉ a → splitC c (a ++ c :: s) = a :: splitC c s
  | [], s, _ => splitC_hit s
  | b :: a, s, h => by
    have hb : b ≠ c := fun e => h (by rw [e]; exact List.mem_cons_self)
    have ih := splitC_app a s (fun e => h (List.mem_cons_of_mem _ e))
    rw [List.cons_append, splitC, if_neg hb, ih]
theorem splitC_one {c : UInt8} : ∀ (a : Bs), c ∉ a → splitC c a = [a]
  | [], _ => rfl
  | b :: a, h => by
    have hb : b ≠ c := fun e => h (by rw [e]; exact List.mem_cons_self)
    rw [splitC, if_neg hb, splitC_one a (fun e => h (List.mem_cons_of_mem _ e))]
theorem join_cons (w : Bs) (ws : List Bs) (c : Bs) (h : ws ≠ []) : Go.Lib.join (w :: ws) c = w ++ c ++ Go.Lib.join ws c := by
  cases ws with
  | nil => exact (h rfl).elim
  | cons v vs => simp [Go.Lib.join, List.intercalate, List.intersperse]
theorem join_one (w : Bs) (c : Bs) : Go.Lib.join [w] c = w := by simp [Go.Lib.join, List.intercalate, List.intersperse]
theorem splitC_join {c : UInt8} : ∀ (ws : List Bs), ws ≠ [] → (∀ w ∈ ws, c ∉ w) → splitC c (Go.Lib.join ws [c]) = ws
  | [], h, _ => (h rfl).elim
  | [w], _, h => by rw [join_one, splitC_one w (h w List.mem_cons_self)]
  | w :: v :: vs, _, h => by
    rw [join_cons w (v :: vs) [c] (by simp), List.append_assoc, List.singleton_append, splitC_app w _ (h w List.mem_cons_self),
      splitC_join (v :: vs) (by simp) (fun x hx => h x (List.mem_cons_of_mem _ hx))]
theorem join_splitC (c : UInt8) : ∀ s : Bs, Go.Lib.join (splitC c s) [c] = s
  | [] => by simp [splitC, join_one]
  | b :: s => by
    have ih := join_splitC c s
    have hne := splitC_ne c s
    unfold splitC
    split
    · rename_i hb
      subst hb
      rw [join_cons _ _ _ hne, ih]; rfl
    · split
      · rename_i e; exact (hne e).elim
      · rename_i w ws e
        rw [e] at ih
        cases ws with
        | nil => rw [join_one] at ih ⊢; rw [ih]
        | cons v vs => rw [join_cons _ _ _ (by simp)] at ih ⊢; rw [List.append_assoc] at ih ⊢; rw [List.cons_append, ih]
theorem splitC_len (c : UInt8) : ∀ s : Bs, (splitC c s).length ≤ s.length + 1
  | [] => by simp [splitC]
  | b :: s => by
    have ih := splitC_len c s
    unfold splitC
    split
    · simp only [List.length_cons]; omega
    · split
      · simp
      · rename_i w ws e
        rw [e] at ih
        simp only [List.length_cons] at ih ⊢; omega
theorem splitC_mem_len (c : UInt8) : ∀ (s : Bs), ∀ w ∈ splitC c s, w.length ≤ s.length
  | [], w, h => by simp [splitC] at h; subst h; simp
  | b :: s, w, h => by
    have ih := splitC_mem_len c s
    unfold splitC at h
    split at h
    · rcases List.mem_cons.1 h with rfl | h
      · simp
      · have := ih w h; simp only [List.length_cons]; omega
    · split at h
      · rename_i e; exact (splitC_ne c s e).elim
      · rename_i v ws e
        rw [e] at ih
        rcases List.mem_cons.1 h with rfl | h
        · have := ih v List.mem_cons_self; simp only [List.length_cons]; omega
        · have := ih w (List.mem_cons_of_mem _ h); simp only [List.length_cons]; omega
/-- The first place of a byte. -/
theorem index_one (c : UInt8) : ∀ s : Bs, (Go.Lib.index s [c] = -1 ∧ c ∉ s) ∨ ∃ a r, s = a ++ c :: r ∧ c ∉ a ∧ Go.Lib.index s [c] = (a.length : Int)
  | [] => .inl ⟨rfl, by simp⟩
  | b :: s => by
    have hp : [c].isPrefixOf (b :: s) = (c == b) := by simp [List.isPrefixOf]
    unfold Go.Lib.index
    rw [hp]
    by_cases h : c = b
    · subst h
      exact .inr ⟨[], s, rfl, by simp, by simp⟩
    · have hb : (c == b) = false := by simpa using h
      rw [hb]
      rcases index_one c s with ⟨h1, h2⟩ | ⟨a, r, h1, h2, h3⟩
      · exact .inl ⟨by rw [h1]; rfl, by simp [h, h2]⟩
      · refine .inr ⟨b :: a, r, by rw [h1]; rfl, by simp [h, h2], ?_⟩
        have hn : (Go.Lib.index s [c] == -1) = false := by rw [h3]; exact beq_eq_false_iff_ne.2 (by omega)
        rw [hn, h3]; simp
theorem splitK_eq (c : UInt8) : ∀ (k : Nat) (s : Bs), Go.Lib.count s [c] = k → Go.Lib.splitK [c] 0 k s = splitC c s
  | 0, s, h => by
    rcases index_one c s with ⟨h1, h2⟩ | ⟨a, r, rfl, h2, h3⟩
    · rw [splitC_one s h2]; rfl
    · rw [Go.Lib.count_hit (by simp) h3] at h; omega
  | k + 1, s, h => by
    rcases index_one c s with ⟨h1, h2⟩ | ⟨a, r, rfl, h2, h3⟩
    · rw [Go.Lib.count_miss h1] at h; omega
    · rw [Go.Lib.count_hit (by simp) h3] at h
      have hd : (a ++ c :: r).drop (a.length + [c].length) = r := by
        rw [show a ++ c :: r = (a ++ [c]) ++ r by simp, show a.length + [c].length = (a ++ [c]).length by simp, List.drop_left]
      rw [hd] at h
      rw [splitC_app a r h2, Go.Lib.splitK, if_neg (by rw [h3]; simp), h3]
      rw [show ((a.length : Int)).toNat = a.length by omega, hd, splitK_eq c k r (by omega)]
      first | done | simp
theorem split_eq (c : UInt8) (s : Bs) : Go.Lib.split s [c] = splitC c s := splitK_eq c _ s rfl
/-- Where a loop from place i on cuts: the parts told, and where the last one begins. -/
def spGo (s : Bs) (c : UInt8) : Nat → Nat → Nat → List Bs × Nat
  | 0, _, f => ([], f)
  | n + 1, i, f => if s.getD i 0 = c then (cutL s f i :: (spGo s c n (i + 1) (i + 1)).1, (spGo s c n (i + 1) (i + 1)).2) else spGo s c n (i + 1) f
theorem spGo_eq (s : Bs) (c : UInt8) : ∀ (n i f : Nat), i + n = s.length → f ≤ i → c ∉ (s.drop f).take (i - f) → (spGo s c n i f).1 ++ [s.drop (spGo s c n i f).2] = splitC c (s.drop f) ∧ (spGo s c n i f).2 ≤ s.length
  | 0, i, f, h, hf, hc => by
    have hd : (s.drop f).take (i - f) = s.drop f := List.take_of_length_le (by simp; omega)
    rw [hd] at hc
    exact ⟨by simp only [spGo, List.nil_append]; rw [splitC_one _ hc], by simp only [spGo]; omega⟩
  | n + 1, i, f, h, hf, hc => by
    have hi : i < s.length := by omega
    have hsp : s.drop f = (s.drop f).take (i - f) ++ s.getD i 0 :: s.drop (i + 1) := by
      have e := (List.take_append_drop (i - f) (s.drop f)).symm
      rw [List.drop_drop, show f + (i - f) = i by omega, List.drop_eq_getElem_cons hi] at e
      rw [getD_lt s i 0 hi]; exact e
    unfold spGo
    split
    · rename_i hb
      have ih := spGo_eq s c n (i + 1) (i + 1) (by omega) (Nat.le_refl _) (by simp)
      rw [hb] at hsp
      have hcut : cutL s f i = (s.drop f).take (i - f) := by
        unfold cutL
        rw [show ((f : Int)).toNat = f by omega, show ((i : Int)).toNat = i by omega, List.drop_take]
      refine ⟨?_, ih.2⟩
      rw [hsp, splitC_app _ _ hc, List.cons_append, ih.1, hcut]
    · rename_i hb
      refine spGo_eq s c n (i + 1) f (by omega) (by omega) ?_
      have ht : (s.drop f).take (i + 1 - f) = (s.drop f).take (i - f) ++ [s.getD i 0] := by
        have hl : ((s.drop f).take (i - f)).length = i - f := by simp; omega
        conv => lhs; rw [hsp]
        rw [List.take_append, hl, List.take_of_length_le (by omega), show i + 1 - f - (i - f) = 1 by omega]
        rfl
      rw [ht]
      intro hm
      rcases List.mem_append.1 hm with h1 | h1
      · exact hc h1
      · exact hb (List.mem_singleton.1 h1).symm
theorem spGo_all (s : Bs) (c : UInt8) : (spGo s c s.length 0 0).1 ++ [s.drop (spGo s c s.length 0 0).2] = splitC c s ∧ (spGo s c s.length 0 0).2 ≤ s.length := by
  have h := spGo_eq s c s.length 0 0 (by omega) (Nat.le_refl _) (by simp)
  rwa [List.drop_zero] at h
/-- The parts that are not empty. -/
def wordsF (s : Bs) : List Bs := (splitC 32 s).filter fun w => !decide (w = [])
theorem wordsF_join (ws : List Bs) (hw : ws ≠ []) (h : ∀ w ∈ ws, w ≠ [] ∧ (32 : UInt8) ∉ w) : wordsF (Go.Lib.join ws [32]) = ws := by
  unfold wordsF
  rw [splitC_join ws hw (fun w hm => (h w hm).2)]
  exact List.filter_eq_self.2 fun w hm => by simp [(h w hm).1]
/-! ### cut at a byte -/
def cutC (c : UInt8) (s : Bs) : Bs × Bs × Bool := Go.Lib.cut s [c]
theorem cutC_hit {c : UInt8} (a r : Bs) (h : c ∉ a) : cutC c (a ++ c :: r) = (a, r, true) := by
  unfold cutC Go.Lib.cut
  rcases index_one c (a ++ c :: r) with ⟨_, h2⟩ | ⟨a', r', h1, h2, h3⟩
  · exact (h2 (by simp)).elim
  · have hs := splitC_app a r h
    rw [h1, splitC_app a' r' h2, List.cons.injEq] at hs
    obtain ⟨rfl, _⟩ := hs
    rw [if_pos (by omega), h3]
    rw [show ((a'.length : Int)).toNat = a'.length by omega]
    have hd : (a' ++ c :: r).drop (a'.length + [c].length) = r := by
      rw [show a' ++ c :: r = (a' ++ [c]) ++ r by simp, show a'.length + [c].length = (a' ++ [c]).length by simp, List.drop_left]
    rw [hd]
    simp
theorem cutC_miss {c : UInt8} (s : Bs) (h : c ∉ s) : cutC c s = (s, [], false) := by
  unfold cutC Go.Lib.cut
  rcases index_one c s with ⟨h1, _⟩ | ⟨a, r, rfl, _, _⟩
  · rw [if_neg (by omega)]
  · exact (h (by simp)).elim
theorem cutC_cases (c : UInt8) (s : Bs) : (c ∉ s ∧ cutC c s = (s, [], false)) ∨ ∃ a r, s = a ++ c :: r ∧ c ∉ a ∧ cutC c s = (a, r, true) := by
  rcases index_one c s with ⟨_, h⟩ | ⟨a, r, h1, h2, _⟩
  · exact .inl ⟨h, cutC_miss s h⟩
  · exact .inr ⟨a, r, h1, h2, by rw [h1]; exact cutC_hit a r h2⟩
theorem cutC_len (c : UInt8) (s : Bs) : (cutC c s).1.length ≤ s.length ∧ (cutC c s).2.1.length ≤ s.length := by
  rcases cutC_cases c s with ⟨_, h⟩ | ⟨a, r, rfl, _, h⟩ <;> rw [h] <;> simp <;> omega
/-! ### numerals -/
/-- Digits read on. -/
def foldD : Bs → Int → Option Int
  | [], n => some n
  | b :: r, n => if 48 ≤ (b.toNat : Int) ∧ (b.toNat : Int) ≤ 57 then foldD r (10 * n + ((b.toNat : Int) - 48)) else none
theorem foldD_app : ∀ (l : Bs) (b : UInt8) (n : Int), foldD (l ++ [b]) n = match foldD l n with
    | some m => if 48 ≤ (b.toNat : Int) ∧ (b.toNat : Int) ≤ 57 then some (10 * m + ((b.toNat : Int) - 48)) else none
    | none => none
  | [], b, n => by simp [foldD]
  | a :: l, b, n => by
    rw [List.cons_append, foldD, foldD]
    split
    · exact foldD_app l b _
    · rfl
theorem dig_nat (d : Nat) (h : d < 10) : (UInt8.ofNat (48 + d)).toNat = 48 + d := by
  rw [UInt8.toNat_ofNat']; omega
theorem foldD_dec (u : Nat) : foldD (Go.Lib.decDigits u) 0 = some (u : Int) := by
  induction u using Nat.strongRecOn with
  | _ u ih =>
    rw [Go.Lib.decDigits]
    split
    · rename_i h
      simp only [foldD, dig_nat u h]
      rw [if_pos (by omega)]
      congr 1; omega
    · rename_i h
      rw [foldD_app, ih (u / 10) (by omega)]
      have hd := dig_nat (u % 10) (by omega)
      simp only [hd]
      rw [if_pos (by omega)]
      congr 1; omega
theorem foldD_bd : ∀ (l : Bs) (n m : Int) (k : Nat), 0 ≤ n → n < 10 ^ k → foldD l n = some m → 0 ≤ m ∧ m < 10 ^ (k + l.length)
  | [], n, m, k, h0, h1, h => by simp only [foldD, Option.some.injEq] at h; subst h; exact ⟨h0, h1⟩
  | b :: l, n, m, k, h0, h1, h => by
    rw [foldD] at h
    split at h
    · rename_i hb
      have := foldD_bd l (10 * n + ((b.toNat : Int) - 48)) m (k + 1) (by omega) (by rw [Int.pow_succ]; omega) h
      rw [List.length_cons, show k + (l.length + 1) = k + 1 + l.length by omega]
      exact this
    · simp at h
theorem decD_len (u : Nat) (k : Nat) (h : u < 10 ^ (k + 1)) : (Go.Lib.decDigits u).length ≤ k + 1 := by
  induction k generalizing u with
  | zero => rw [Go.Lib.decDigits_one (by simpa using h)]; simp
  | succ k ih =>
    rw [Go.Lib.decDigits]
    split
    · simp
    · have := ih (u / 10) (by rw [Nat.pow_succ] at h; omega)
      simp only [List.length_append, List.length_cons, List.length_nil]; omega
theorem decD_pos (u : Nat) : 1 ≤ (Go.Lib.decDigits u).length := by rw [Go.Lib.decDigits_length]; exact Go.Lib.nDigits_pos u
theorem decD_lt (u k : Nat) (h : (Go.Lib.decDigits u).length ≤ k) : u < 10 ^ k := by
  rw [Go.Lib.decDigits_length] at h
  exact Nat.lt_of_lt_of_le (Go.Lib.lt_pow_nDigits u) (Nat.pow_le_pow_right (by decide) h)
theorem decD_dig (u : Nat) : ∀ b ∈ Go.Lib.decDigits u, 48 ≤ b.toNat ∧ b.toNat ≤ 57 := by
  induction u using Nat.strongRecOn with
  | _ u ih =>
    rw [Go.Lib.decDigits]
    split
    · rename_i h
      intro b hb
      rw [List.mem_singleton.1 hb, dig_nat u h]; omega
    · intro b hb
      rcases List.mem_append.1 hb with h1 | h1
      · exact ih (u / 10) (by omega) b h1
      · rw [List.mem_singleton.1 h1, dig_nat (u % 10) (by omega)]; omega
theorem parseU_app (M : Nat) : ∀ (l : Bs) (b : UInt8) (acc a : Nat), Go.Lib.parseUintM M acc l = .ok a → 48 ≤ b.toNat ∧ b.toNat ≤ 57 → a < 1844674407370955162 → a * 10 + (b.toNat - 48) ≤ M → Go.Lib.parseUintM M acc (l ++ [b]) = .ok (a * 10 + (b.toNat - 48))
  | [], b, acc, a, h, hb, h1, h2 => by
    simp only [Go.Lib.parseUintM, Go.Lib.NumEnd.ok.injEq] at h
    subst h
    rw [List.nil_append, Go.Lib.parseUintM, if_pos hb, if_neg (by omega), if_neg (by omega)]
    rfl
  | c :: l, b, acc, a, h, hb, h1, h2 => by
    rw [Go.Lib.parseUintM] at h
    rw [List.cons_append, Go.Lib.parseUintM]
    split at h
    · rename_i hc
      rw [if_pos hc]
      split at h
      · simp at h
      · rename_i h3
        rw [if_neg h3]
        split at h
        · simp at h
        · rename_i h4
          rw [if_neg h4]
          exact parseU_app M l b _ a h hb h1 h2
    · simp at h
theorem parseU_dec (M u : Nat) (h : u < 1000000000000000000) (hM : 1000000000000000000 ≤ M) : Go.Lib.parseUintM M 0 (Go.Lib.decDigits u) = .ok u := by
  induction u using Nat.strongRecOn with
  | _ u ih =>
    rw [Go.Lib.decDigits]
    split
    · rename_i h10
      have := parseU_app M [] (UInt8.ofNat (48 + u)) 0 0 rfl (by rw [dig_nat u h10]; omega) (by omega) (by rw [dig_nat u h10]; omega)
      rw [List.nil_append] at this
      rw [this, dig_nat u h10]
      congr 1; omega
    · have hd := dig_nat (u % 10) (by omega)
      rw [parseU_app M _ _ 0 (u / 10) (ih (u / 10) (by omega) (by omega)) (by rw [hd]; omega) (by omega) (by rw [hd]; omega), hd]
      congr 1; omega
theorem itoa_cases (n : Int) : (n < 0 ∧ decT n = 45 :: Go.Lib.decDigits n.natAbs) ∨ (0 ≤ n ∧ decT n = Go.Lib.decDigits n.natAbs) := by
  unfold decT Go.Lib.itoa
  by_cases h : n < 0
  · exact .inl ⟨h, by rw [if_pos h]⟩
  · exact .inr ⟨by omega, by rw [if_neg h, show n.toNat = n.natAbs by omega]⟩
theorem decD_cons (u : Nat) : ∃ b r, Go.Lib.decDigits u = b :: r ∧ 48 ≤ b.toNat ∧ b.toNat ≤ 57 := by
  have h1 := decD_pos u
  have h2 := decD_dig u
  cases h : Go.Lib.decDigits u with
  | nil => rw [h] at h1; simp at h1
  | cons b r => exact ⟨b, r, rfl, h2 b (by rw [h]; exact List.mem_cons_self)⟩
theorem parseI_dec (n : Int) (h0 : -1000000000000000000 < n) (h1 : n < 1000000000000000000) : Go.Lib.parseIntB 64 (decT n) = .ok n := by
  have hU : ∀ u : Nat, u < 1000000000000000000 → Go.Lib.parseUintB 64 (Go.Lib.decDigits u) = .ok u := fun u hu => by
    obtain ⟨b, r, e, _⟩ := decD_cons u
    unfold Go.Lib.parseUintB
    rw [if_neg (by rw [e]; simp)]
    exact parseU_dec _ u hu (by decide)
  rcases itoa_cases n with ⟨hn, e⟩ | ⟨hn, e⟩
  · rw [e]
    unfold Go.Lib.parseIntB
    simp only [show (45 : UInt8).toNat = 45 from rfl, or_true, if_true]
    rw [hU n.natAbs (by omega)]
    simp only [not_true_eq_false, false_and, if_false, true_and, if_true]
    rw [if_neg (by have : (2 : Nat) ^ (64 - 1) = 9223372036854775808 := rfl
                   omega)]
    congr 1; omega
  · obtain ⟨b, r, e', hb⟩ := decD_cons n.natAbs
    rw [e]
    have h2 := hU n.natAbs (by omega)
    rw [e'] at h2 ⊢
    unfold Go.Lib.parseIntB
    simp only
    rw [if_neg (by omega), h2]
    have h45 : ¬ b.toNat = 45 := by omega
    simp only [h45, not_false_eq_true, true_and, false_and, if_false]
    rw [if_neg (by have : (2 : Nat) ^ (64 - 1) = 9223372036854775808 := rfl
                   omega)]
    congr 1; omega
/-- Numerals of at most 18 digits, read. -/
def readD (s : Bs) : Int × Bool := match Go.Lib.parseIntB 64 s with
  | .ok v => if decT v = s ∧ (Go.Lib.trimPrefix s [45]).length ≤ 18 then (v, true) else (0, false)
  | _ => (0, false)
def smallN (n : Int) : Prop := -1000000000000000000 < n ∧ n < 1000000000000000000
theorem trim_dec (n : Int) : Go.Lib.trimPrefix (decT n) [45] = Go.Lib.decDigits n.natAbs := by
  unfold Go.Lib.trimPrefix Go.Lib.hasPrefix
  rcases itoa_cases n with ⟨hn, e⟩ | ⟨hn, e⟩
  · rw [e]; simp [List.isPrefixOf]
  · obtain ⟨b, r, e', hb⟩ := decD_cons n.natAbs
    rw [e, e']
    rw [if_neg]
    simp only [List.isPrefixOf, Bool.and_true, beq_iff_eq]
    intro h; subst h; simp at hb
theorem readD_ok {s : Bs} {n : Int} (h : readD s = (n, true)) : decT n = s ∧ smallN n := by
  unfold readD at h
  split at h
  · split at h
    · rename_i hc
      simp only [Prod.mk.injEq, and_true] at h
      subst h
      refine ⟨hc.1, ?_⟩
      have hl := hc.2
      rw [← hc.1, trim_dec] at hl
      have := decD_lt _ 18 hl
      unfold smallN
      omega
    · simp at h
  · simp at h
theorem readD_of {n : Int} (h : smallN n) : readD (decT n) = (n, true) := by
  unfold readD
  rw [parseI_dec n h.1 h.2]
  simp only
  have hl : (Go.Lib.trimPrefix (decT n) [45]).length ≤ 18 := by
    rw [trim_dec]; exact decD_len _ 17 (by unfold smallN at h; omega)
  rw [if_pos ⟨by first | rfl | trivial, hl⟩]
theorem readD_no {s : Bs} (h : (readD s).2 = false) : readD s = (0, false) := by
  unfold readD at h ⊢
  split at h
  · split at h
    · simp at h
    · rename_i hc; rw [if_neg hc]
  · rfl
theorem readD_cases (s : Bs) : readD s = (0, false) ∨ ∃ n, readD s = (n, true) ∧ decT n = s ∧ smallN n := by
  cases h : (readD s).2
  · exact .inl (readD_no h)
  · refine .inr ⟨(readD s).1, ?_, ?_⟩
    · rw [← h]
    · exact readD_ok (by rw [← h])
theorem readD_bd (s : Bs) : -1000000000000000000 ≤ (readD s).1 ∧ (readD s).1 ≤ 1000000000000000000 := by
  rcases readD_cases s with h | ⟨n, h, _, h2⟩ <;> rw [h]
  · constructor <;> simp
  · unfold smallN at h2; constructor <;> simp only <;> omega
/-- The same, as the reference reads. -/
def stripM (s : Bs) : Bs := match s with
  | [] => []
  | b :: r => if b = 45 then r else b :: r
def numF (s : Bs) : Int × Bool := if 1 ≤ (stripM s).length ∧ (stripM s).length ≤ 18 then
    match foldD (stripM s) 0 with
    | some n => if decT (if (stripM s).length < s.length then 0 - n else n) = s then ((if (stripM s).length < s.length then 0 - n else n), true) else (0, false)
    | none => (0, false)
  else (0, false)
theorem strip_dec (n : Int) : stripM (decT n) = Go.Lib.decDigits n.natAbs ∧ ((Go.Lib.decDigits n.natAbs).length < (decT n).length ↔ n < 0) := by
  rcases itoa_cases n with ⟨hn, e⟩ | ⟨hn, e⟩
  · rw [e]; exact ⟨by simp [stripM], by simp [hn]⟩
  · obtain ⟨b, r, e', hb⟩ := decD_cons n.natAbs
    rw [e, e']
    refine ⟨?_, by simp; omega⟩
    have hne : b ≠ 45 := fun h => by subst h; simp at hb
    simp only [stripM, if_neg hne]
theorem numF_of {n : Int} (h : smallN n) : numF (decT n) = (n, true) := by
  unfold numF
  obtain ⟨e1, e2⟩ := strip_dec n
  unfold smallN at h
  rw [e1, if_pos ⟨decD_pos _, decD_len _ 17 (by omega)⟩, foldD_dec]
  have hn : (if (Go.Lib.decDigits n.natAbs).length < (decT n).length then 0 - (n.natAbs : Int) else (n.natAbs : Int)) = n := by
    split
    · rename_i h1; have := e2.1 h1; omega
    · rename_i h1; have := fun h2 => h1 (e2.2 h2); omega
  simp only [hn, if_true]
theorem numF_ok {s : Bs} {n : Int} (h : numF s = (n, true)) : decT n = s ∧ smallN n := by
  unfold numF at h
  split at h
  · rename_i hl
    split at h
    · rename_i m hm
      generalize hz : (if (stripM s).length < s.length then 0 - m else m) = z at h
      by_cases hd : decT z = s
      · rw [if_pos hd] at h
        simp only [Prod.mk.injEq, and_true] at h
        subst h
        refine ⟨hd, ?_⟩
        have hb := foldD_bd _ 0 m 0 (by omega) (by decide) hm
        have h2 : (10 : Int) ^ (0 + (stripM s).length) ≤ 10 ^ 18 := by
          have : (10 : Nat) ^ (0 + (stripM s).length) ≤ 10 ^ 18 := Nat.pow_le_pow_right (by decide) (by omega)
          exact_mod_cast this
        have h3 : (10 : Int) ^ 18 = 1000000000000000000 := by decide
        unfold smallN
        split at hz <;> omega
      · rw [if_neg hd] at h; simp at h
    · simp at h
  · simp at h
theorem numF_no {s : Bs} (h : (numF s).2 = false) : numF s = (0, false) := by
  unfold numF at h ⊢
  split
  · rename_i hl
    rw [if_pos hl] at h
    split
    · rename_i m hm
      rw [hm] at h
      simp only at h
      generalize (if (stripM s).length < s.length then 0 - m else m) = z at *
      by_cases hd : decT z = s
      · rw [if_pos hd] at h; simp at h
      · rw [if_neg hd]
    · rfl
  · rfl
theorem num_eq (s : Bs) : numF s = readD s := by
  cases h : (numF s).2
  · have h1 := numF_no h
    rcases readD_cases s with h2 | ⟨n, h2, h3, h4⟩
    · rw [h1, h2]
    · subst h3; rw [numF_of h4] at h1; simp at h1
  · have h1 := numF_ok (s := s) (n := (numF s).1) (by rw [← h])
    conv => rhs; rw [← h1.1, readD_of h1.2]
    rw [← h]
/-- Numerals of at most ten digits; zeros may stand ahead. -/
def intF (s : Bs) : Int × Bool := if 1 ≤ (stripM s).length ∧ (stripM s).length ≤ 10 then
    match foldD (stripM s) 0 with
    | some n => ((if (stripM s).length < s.length then 0 - n else n), true)
    | none => (0, false)
  else (0, false)
theorem intF_of {n : Int} (h : -10000000000 < n ∧ n < 10000000000) : intF (decT n) = (n, true) := by
  unfold intF
  obtain ⟨e1, e2⟩ := strip_dec n
  rw [e1, if_pos ⟨decD_pos _, decD_len _ 9 (by omega)⟩, foldD_dec]
  have hn : (if (Go.Lib.decDigits n.natAbs).length < (decT n).length then 0 - (n.natAbs : Int) else (n.natAbs : Int)) = n := by
    split
    · rename_i h1; have := e2.1 h1; omega
    · rename_i h1; have := fun h2 => h1 (e2.2 h2); omega
  simp only [hn]
theorem intF_bd (s : Bs) : -10000000000 ≤ (intF s).1 ∧ (intF s).1 ≤ 10000000000 := by
  unfold intF
  split
  · rename_i hl
    split
    · rename_i m hm
      have hb := foldD_bd _ 0 m 0 (by omega) (by decide) hm
      have h2 : (10 : Int) ^ (0 + (stripM s).length) ≤ 10 ^ 10 := by
        have : (10 : Nat) ^ (0 + (stripM s).length) ≤ 10 ^ 10 := Nat.pow_le_pow_right (by decide) (by omega)
        exact_mod_cast this
      have h3 : (10 : Int) ^ 10 = 10000000000 := by decide
      simp only
      split <;> omega
    · constructor <;> simp
  · constructor <;> simp
theorem intF_no {s : Bs} (h : (intF s).2 = false) : intF s = (0, false) := by
  unfold intF at h ⊢
  split
  · rename_i hl
    rw [if_pos hl] at h
    split
    · rename_i m hm; rw [hm] at h; simp at h
    · rfl
  · rfl
/-- What stands in a numeral. -/
theorem decT_mem (n : Int) : ∀ b ∈ decT n, b = 45 ∨ (48 ≤ b.toNat ∧ b.toNat ≤ 57) := by
  intro b hb
  rcases itoa_cases n with ⟨_, e⟩ | ⟨_, e⟩ <;> rw [e] at hb
  · rcases List.mem_cons.1 hb with h | h
    · exact .inl h
    · exact .inr (decD_dig _ b h)
  · exact .inr (decD_dig _ b hb)
theorem decT_ne (n : Int) : decT n ≠ [] := by
  rcases itoa_cases n with ⟨_, e⟩ | ⟨_, e⟩
  · rw [e]; simp
  · obtain ⟨b, r, e', _⟩ := decD_cons n.natAbs
    rw [e, e']; simp
theorem decT_no (n : Int) (c : UInt8) (h : c.toNat < 45 ∨ c.toNat = 47 ∨ 57 < c.toNat) : c ∉ decT n := by
  intro hm
  rcases decT_mem n c hm with h1 | h1
  · subst h1; simp at h
  · omega
/-- Readers that agree with one writer are the same. -/
theorem reader_eq {α : Type} {R S : α × Bool} {s : Bs} {T : α → Bs} {V : α → Prop} {z : α} (h1 : R.2 = false → R = (z, false)) (h2 : S.2 = false → S = (z, false))
    (hR : R.2 = true → V R.1 ∧ T R.1 = s) (hS : S.2 = true → V S.1 ∧ T S.1 = s) (cR : ∀ x, V x → T x = s → R = (x, true)) (cS : ∀ x, V x → T x = s → S = (x, true)) : R = S := by
  cases hr : R.2
  · cases hs : S.2
    · rw [h1 hr, h2 hs]
    · obtain ⟨a, b⟩ := hS hs
      rw [cR _ a b] at hr
      simp at hr
  · obtain ⟨a, b⟩ := hR hr
    rw [cS _ a b, cR _ a b]
end Go.Proofs.YtkeckmdmmbeaiaaDoor
