/- The evaluator: typed contracts, a table of contracts. Conditions: as each says. -/
import Derived.Test.YtkmpkiiofochnaaSxJ
set_option linter.unusedSimpArgs false
set_option linter.unusedVariables false
namespace Go.Proofs.Ytkmpkiiofochnaa
open Go.RowKit
namespace Sx
/-- An argument: one cell, or a struct of cells. -/
inductive Sh where
  | v (t : Ty)
  | s (t : Ty)
  | p (t : Ty)
@[reducible] def Sh.den : Sh → Type
  | .v t => t.den
  | .s t => t.den
  | .p t => t.den
@[reducible] def Args : List Sh → Type
  | [] => Unit
  | x :: l => x.den × Args l
def encV (t : Ty) (x : t.den) : AV := (enc t x).headD .unk
def encS (t : Ty) (x : t.den) : AV := .agg (enc t x)
def encSh : (s : Sh) → s.den → AV
  | .v t, x => encV t x
  | .s t, x => encS t x
  | .p t, x => .velt t x 0
def encA : (l : List Sh) → Args l → List AV
  | [], _ => []
  | s :: l, x => encSh s x.1 :: encA l x.2
def decSh : (s : Sh) → AV → Option s.den
  | .v t, v => bif Nat.beq t.size 1 then decT t [v] else none
  | .s t, .agg cs => decT t cs
  | .p t, .velt t' x off => bif Nat.beq off 0 then decT t (enc t' x) else none
  | _, _ => none
def decA : (l : List Sh) → List AV → Option (Args l)
  | [], [] => some ()
  | s :: l, v :: vs => match decSh s v, decA l vs with
    | some x, some y => some (x, y)
    | _, _ => none
  | _, _ => none
section
variable {c : Cx}
theorem enc_one_cell {t : Ty} (h : t.size = 1) (x : t.den) : enc t x = [encV t x] := by
  have := enc_length t x
  rw [h] at this
  unfold encV
  match he : enc t x, this with
  | [v], _ => rfl
theorem decSh_den {s : Sh} {v : AV} {x : s.den} {r : Value} (h : decSh s v = some x) (hd : Den c v r) : Den c (encSh s x) r := by
  cases s with
  | v t =>
    change (bif Nat.beq t.size 1 then decT t [v] else none) = some x at h
    by_cases ht : t.size = 1
    · rw [show Nat.beq t.size 1 = true by rw [ht]; rfl] at h
      have := decT_den h (⟨r, [], rfl, hd, rfl⟩ : DenL c [v] [r])
      rw [enc_one_cell ht] at this
      obtain ⟨r', _, hr, g, _⟩ := this
      simp only [List.cons.injEq] at hr
      obtain ⟨rfl, _⟩ := hr
      exact g
    · rw [nbeq_ne ht] at h
      simp at h
  | s t =>
    cases v <;> simp only [decSh, reduceCtorEq] at h
    obtain ⟨vs, rfl, hds⟩ := hd
    exact ⟨vs, rfl, decT_den h hds⟩
  | p t =>
    cases v <;> simp only [decSh, reduceCtorEq] at h
    rename_i t' y off
    cases ho : Nat.beq off 0 <;> rw [ho] at h <;> simp only [cond_true, cond_false, reduceCtorEq] at h
    have ho : off = 0 := Nat.eq_of_beq_eq_true ho
    subst ho
    obtain ⟨b, o, us, h1, h2, h3, h4⟩ := hd
    exact ⟨b, o, us, h1, h2, den_reads (decT_den h (enc_den h3)), h4⟩
theorem decA_den0 : True := trivial
theorem decA_den : ∀ {l : List Sh} {as : List AV} {x : Args l} {vs : List Value}, decA l as = some x → DenL c as vs → DenL c (encA l x) vs
  | [], [], x, vs, h, hd => hd
  | [], _ :: _, x, vs, h, hd => by simp [decA] at h
  | _ :: _, [], x, vs, h, hd => by simp [decA] at h
  | s :: l, v :: as, x, vs, h, hd => by
    simp only [decA] at h
    split at h
    · rename_i y z h1 h2
      simp only [Option.some.injEq] at h
      subst h
      obtain ⟨r, vs', rfl, g1, g2⟩ := hd
      exact ⟨r, vs', rfl, decSh_den h1 g1, decA_den h2 g2⟩
    · simp at h
end
/-- A contract over typed data. -/
def ctOf (l : List Sh) (pre : Args l → Nd) (val : Args l → AV) : Ct := fun as =>
  match decA l as with
  | some x => some (pre x, val x)
  | none => none
/-- Two values that say the same. -/
def AV.same : AV → AV → Prop
  | .int k n, .int k' m => k = k' ∧ n = m
  | .bool b, .bool c => b = c
  | .lit b, .bool c => b = c
  | .str s, .str t => s = t
  | .nilS, .nilS => True
  | .nilS, .own _ xs => xs = []
  | .own t xs, .own t' ys => (⟨t, xs⟩ : OwnD) = ⟨t', ys⟩
  | .agg xs, .agg ys => sameL xs ys
  | .tup xs, .tup ys => sameL xs ys
  | _, _ => False
where sameL : List AV → List AV → Prop
  | [], [] => True
  | x :: xs, y :: ys => x.same y ∧ sameL xs ys
  | _, _ => False
/-- What two values that say the same bring along. -/
structure SameOwns (a b : List OwnD) : Prop where
  le : a.length ≤ b.length
  eq : a.length = b.length → b = a
  nil : a = [] → ∀ o ∈ b, o.xs = []
theorem SameOwns.rfl' {a : List OwnD} : SameOwns a a := ⟨Nat.le_refl _, fun _ => rfl, fun h => by simp [h]⟩
theorem SameOwns.append {a b a' b' : List OwnD} (h : SameOwns a b) (h' : SameOwns a' b') : SameOwns (a ++ a') (b ++ b') := by
  have := h.le
  have := h'.le
  refine ⟨by simp; omega, fun he => ?_, fun he o ho => ?_⟩
  · simp only [List.length_append] at he
    rw [h.eq (by omega), h'.eq (by omega)]
  · simp only [List.append_eq_nil_iff] at he
    rcases List.mem_append.1 ho with ho | ho
    · exact h.nil he.1 o ho
    · exact h'.nil he.2 o ho
mutual
theorem same_owns : ∀ {x y : AV}, x.same y → SameOwns (ownsOf x) (ownsOf y)
  | .int _ _, y, h => by cases y <;> simp only [AV.same] at h; exact .rfl'
  | .bool _, y, h => by cases y <;> simp only [AV.same] at h; exact .rfl'
  | .lit _, y, h => by cases y <;> simp only [AV.same] at h; exact .rfl'
  | .str _, y, h => by cases y <;> simp only [AV.same] at h; exact .rfl'
  | .own t xs, y, h => by
    cases y <;> simp only [AV.same] at h
    simp only [ownsOf, h]; exact .rfl'
  | .nilS, y, h => by
    cases y <;> simp only [AV.same] at h
    · subst h; exact ⟨by simp [ownsOf], by simp [ownsOf], fun _ o ho => by simp only [ownsOf, List.mem_singleton] at ho; subst ho; rfl⟩
    · exact .rfl'
  | .agg xs, y, h => by cases y <;> simp only [AV.same] at h; exact sameL_owns h
  | .tup xs, y, h => by cases y <;> simp only [AV.same] at h; exact sameL_owns h
  | .undef, y, h => by cases y <;> simp only [AV.same] at h
  | .unk, y, h => by cases y <;> simp only [AV.same] at h
  | .fn _, y, h => by cases y <;> simp only [AV.same] at h
  | .ptr _ _, y, h => by cases y <;> simp only [AV.same] at h
  | .elt _ _ _ _, y, h => by cases y <;> simp only [AV.same] at h
  | .velt _ _ _, y, h => by cases y <;> simp only [AV.same] at h
  | .view _ _, y, h => by cases y <;> simp only [AV.same] at h
  | .row _, y, h => by cases y <;> simp only [AV.same] at h
theorem sameL_owns : ∀ {xs ys : List AV}, AV.same.sameL xs ys → SameOwns (ownsOf.ownsL xs) (ownsOf.ownsL ys)
  | [], [], _ => .rfl'
  | [], _ :: _, h => by simp only [AV.same.sameL] at h
  | _ :: _, [], h => by simp only [AV.same.sameL] at h
  | x :: xs, y :: ys, h => by
    simp only [AV.same.sameL] at h
    exact (same_owns h.1).append (sameL_owns h.2)
end
mutual
theorem same_den {c c' : Cx} : ∀ {x y : AV} {r : Value}, x.same y → (ownsOf x ≠ [] → c'.dom 0 ∧ c'.ref 0 = c.ref 0) → ((ownsOf x).length < (ownsOf y).length → c'.dom 0 ∧ c'.ref 0 = .slice none 0 0) → Den c (rowed 0 x) r → Den c' (rowed 0 y) r
  | .int _ _, y, r, h, _, _, hd => by cases y <;> simp only [AV.same] at h; obtain ⟨rfl, rfl⟩ := h; exact hd
  | .bool _, y, r, h, _, _, hd => by cases y <;> simp only [AV.same] at h; subst h; exact hd
  | .lit _, y, r, h, _, _, hd => by cases y <;> simp only [AV.same] at h; subst h; exact hd
  | .str _, y, r, h, _, _, hd => by cases y <;> simp only [AV.same] at h; subst h; exact hd
  | .own t xs, y, r, h, h1, _, hd => by
    cases y <;> simp only [AV.same] at h
    obtain ⟨g1, g2⟩ := h1 (by simp [ownsOf])
    exact ⟨g1, by rw [g2]; exact hd.2.1, hd.2.2⟩
  | .nilS, y, r, h, _, h2, hd => by
    cases y <;> simp only [AV.same] at h
    · obtain ⟨g1, g2⟩ := h2 (by simp [ownsOf])
      have hd : r = .slice none 0 0 := hd
      exact ⟨g1, by rw [g2]; exact hd, none, 0, 0, hd⟩
    · exact hd
  | .agg xs, y, r, h, h1, h2, hd => by
    cases y <;> simp only [AV.same] at h
    obtain ⟨vs, e, hds⟩ := hd
    exact ⟨vs, e, sameL_den h h1 h2 hds⟩
  | .tup xs, y, r, h, h1, h2, hd => by
    cases y <;> simp only [AV.same] at h
    obtain ⟨vs, e, hds⟩ := hd
    exact ⟨vs, e, sameL_den h h1 h2 hds⟩
  | .undef, y, r, h, _, _, _ => by cases y <;> simp only [AV.same] at h
  | .unk, y, r, h, _, _, _ => by cases y <;> simp only [AV.same] at h
  | .fn _, y, r, h, _, _, _ => by cases y <;> simp only [AV.same] at h
  | .ptr _ _, y, r, h, _, _, _ => by cases y <;> simp only [AV.same] at h
  | .elt _ _ _ _, y, r, h, _, _, _ => by cases y <;> simp only [AV.same] at h
  | .velt _ _ _, y, r, h, _, _, _ => by cases y <;> simp only [AV.same] at h
  | .view _ _, y, r, h, _, _, _ => by cases y <;> simp only [AV.same] at h
  | .row _, y, r, h, _, _, _ => by cases y <;> simp only [AV.same] at h
theorem sameL_den {c c' : Cx} : ∀ {xs ys : List AV} {rs : List Value}, AV.same.sameL xs ys → (ownsOf.ownsL xs ≠ [] → c'.dom 0 ∧ c'.ref 0 = c.ref 0) → ((ownsOf.ownsL xs).length < (ownsOf.ownsL ys).length → c'.dom 0 ∧ c'.ref 0 = .slice none 0 0) →
    DenL c (rowed.rowedL 0 xs) rs → DenL c' (rowed.rowedL 0 ys) rs
  | [], [], _, _, _, _, hd => hd
  | [], _ :: _, _, h, _, _, _ => by simp only [AV.same.sameL] at h
  | _ :: _, [], _, h, _, _, _ => by simp only [AV.same.sameL] at h
  | x :: xs, y :: ys, _, h, h1, h2, hd => by
    simp only [AV.same.sameL] at h
    obtain ⟨r, rs', rfl, g1, g2⟩ := hd
    have l1 := (same_owns h.1).le
    have l2 := (sameL_owns h.2).le
    refine ⟨r, rs', rfl, same_den h.1 (fun hne => h1 ?_) (fun hlt => h2 ?_) g1, sameL_den h.2 (fun hne => h1 ?_) (fun hlt => h2 ?_) g2⟩
    · simp only [ownsOf.ownsL, ne_eq, List.append_eq_nil_iff, not_and]; exact fun h => absurd h hne
    · simp only [ownsOf.ownsL, List.length_append]; omega
    · simp only [ownsOf.ownsL, ne_eq, List.append_eq_nil_iff, not_and]; exact fun _ h => absurd h hne
    · simp only [ownsOf.ownsL, List.length_append]; omega
end
theorem gives_same {n : Nat} {w : World} {v v' : AV} {r : Value} (h : Gives n w v r) (hs : v.same v') (h1 : (ownsOf v').length ≤ 1) : Gives n w v' r := by
  obtain ⟨u, hd, hu, hB⟩ := h
  have so := same_owns hs
  have hle := so.le
  by_cases hv : ownsOf v = []
  · by_cases hv' : ownsOf v' = []
    · refine ⟨u, same_den hs (fun h => absurd hv h) (fun h => by rw [hv, hv'] at h; simp at h) hd, fun _ => hu hv, fun t xs he => by rw [hv'] at he; simp at he⟩
    · refine ⟨.slice none 0 0, same_den (c' := resCx n w (.slice none 0 0) (ownsOf v' ≠ [])) hs (fun h => absurd hv h) (fun _ => ⟨⟨rfl, hv'⟩, rfl⟩) hd, fun he => absurd he hv', fun t xs he => .inl ⟨rfl, ?_⟩⟩
      exact so.nil hv ⟨t, xs⟩ (by rw [he]; simp)
  · have hlen : (ownsOf v).length = (ownsOf v').length := by
      have : 0 < (ownsOf v).length := List.length_pos_iff.2 hv
      omega
    have he := so.eq hlen
    refine ⟨u, same_den (c := resCx n w u (ownsOf v ≠ [])) (c' := resCx n w u (ownsOf v' ≠ [])) hs (fun h => ⟨⟨rfl, by rw [he]; exact h⟩, rfl⟩) (fun h => by omega) hd, fun h => hu (by rw [← he]; exact h), fun t xs h => hB t xs (by rw [← he]; exact h)⟩
section
variable {P : Program} {C : FuncId → Option Ct} {wr : Bool} {L : Nat → Option LAnn}
theorem sat_typed {f : FuncId} {fn : Func} {l : List Sh} {pre : Args l → Nd} {val : Args l → AV} (hm : P.follows .mixedOrders = true) (hf : P.funcs[f]? = some fn) (hC : ∀ f ct, C f = some ct → Sat P f ct) (hL : ∀ c, fn.body = some c → LoopsOk P L fn.ntmps c)
    (h1 : ∀ x, (ownsOf (val x)).length ≤ 1) (h : ∀ x, (pre x).ok → (exFunc P C wr L fn (encA l x)).ok fun vs => (packAV vs).same (val x)) : Sat P f (ctOf l pre val) := by
  intro args p v hct hp w vs hd
  unfold ctOf at hct
  split at hct
  · rename_i x hx
    simp only [Option.some.injEq, Prod.mk.injEq] at hct
    obtain ⟨rfl, rfl⟩ := hct
    refine (calls_of_tree hm hf hC hL (h x hp) (decA_den hx hd)).mono ?_
    rintro e w' ⟨r, ys, rfl, hs, hg, hb⟩
    exact ⟨r, rfl, gives_same hg hs (h1 x), hb⟩
  · simp at hct
end
/-! ### a table of contracts -/
def noC : FuncId → Option Ct := fun _ => none
def addC (f : FuncId) (ct : Ct) (C : FuncId → Option Ct) : FuncId → Option Ct := fun g => bif Nat.beq g f then some ct else C g
def noL : Nat → Option LAnn := fun _ => none
def addL (id : Nat) (ann : LAnn) (L : Nat → Option LAnn) : Nat → Option LAnn := fun g => bif Nat.beq g id then some ann else L g
def COk (P : Program) (C : FuncId → Option Ct) : Prop := ∀ f ct, C f = some ct → Sat P f ct
theorem noC_ok (P : Program) : COk P noC := fun f ct h => by simp [noC] at h
theorem addC_ok {P : Program} {C : FuncId → Option Ct} {f : FuncId} {ct : Ct} (h : COk P C) (hs : Sat P f ct) : COk P (addC f ct C) := fun g ct' hg => by
  unfold addC at hg
  by_cases he : g = f
  · subst he
    simp only [Nat.beq_refl, cond_true, Option.some.injEq] at hg
    subst hg; exact hs
  · rw [nbeq_ne he] at hg
    exact h g ct' hg
def loopAt (fn : Func) (i : Nat) : Code :=
  match fn.body with
  | some c => (loopsOf c).getD i .skip
  | none => .skip
def loopN (fn : Func) : Nat :=
  match fn.body with
  | some c => (loopsOf c).length
  | none => 0
theorem loops0 {P : Program} {L : Nat → Option LAnn} {fn : Func} (h : loopN fn = 0) : ∀ c, fn.body = some c → LoopsOk P L fn.ntmps c := by
  intro c hc b hb
  simp only [loopN, hc, List.length_eq_zero_iff] at h
  rw [h] at hb
  simp at hb
/-- The loops of a function, one by one. -/
theorem loopsN {P : Program} {L : Nat → Option LAnn} {fn : Func} (h : ∀ i, i < loopN fn → ∀ ann, L (firstId (loopAt fn i)) = some ann → LoopSat P fn.ntmps (loopAt fn i) ann) : ∀ c, fn.body = some c → LoopsOk P L fn.ntmps c := by
  intro c hc b hb ann ha
  obtain ⟨i, hi, rfl⟩ := List.getElem_of_mem hb
  have := h i (by simpa [loopN, hc] using hi) ann
  simp only [loopAt, hc, List.getD, List.getElem?_eq_getElem hi, Option.getD_some] at this
  exact this ha
theorem loopsIn0 {P : Program} {L : Nat → Option LAnn} {nt : Nat} {c : Code} (h : loopsOf c = []) : LoopsOk P L nt c := fun b hb => by rw [h] at hb; simp at hb
theorem loopsIn1 {P : Program} {L : Nat → Option LAnn} {nt : Nat} {c b : Code} (h : loopsOf c = [b]) (hs : ∀ ann, L (firstId b) = some ann → LoopSat P nt b ann) : LoopsOk P L nt c := fun b' hb => by
  rw [h] at hb
  simp only [List.mem_singleton] at hb
  subst hb; exact hs
end Sx
end Go.Proofs.Ytkmpkiiofochnaa
