/- The evaluator is sound: single operations. Conditions: as each says. -/
import Derived.Test.YtkmpkiiofochnaaSxB
import Derived.IntWalk
import Derived.Laws.Strings
set_option linter.unusedSimpArgs false
set_option linter.unusedVariables false
namespace Go.Proofs.Ytkmpkiiofochnaa
open Go.RowKit
namespace Sx

def blkOf : Value → Option Nat
  | .pointer (some a) => some a.block
  | .slice (some a) _ _ => some a.block
  | _ => none
def RowAt (w : World) (ok : Nat → Prop) (t : Ty) (xs : List t.den) (vs : List Value) : Prop :=
  vs.length = xs.length * t.size ∧ ∀ i (h : i < xs.length), ∃ us, Reads w ok t xs[i] us ∧ ∀ j, j < us.length → vs[i * t.size + j]? = us[j]?
def BlkDen (c : Cx) (base : Nat) (v : Value) : Blk → Prop
  | .box cs => ∃ b vs ty, v = .pointer (some ⟨b, 0, none⟩) ∧ base ≤ b ∧ c.w.heap[b]? = some (.cells (List.toArray vs) ty (0, 0)) ∧ DenL c cs vs
  | .row t xs => (v = .slice none 0 0 ∧ xs = []) ∨ ∃ b cap vs rest ty, v = .slice (some ⟨b, 0, none⟩) xs.length cap ∧ base ≤ b ∧ c.w.heap[b]? = some (.cells (List.toArray (vs ++ rest)) ty (0, 0)) ∧
      RowAt c.w c.ok t xs vs ∧ vs.length + rest.length = cap * t.size ∧ xs.length ≤ cap
  | .dead => True
def okOf (σ : St) (w : World) (ref : Nat → Value) (b : Nat) : Prop := b < w.heap.size ∧ ∀ n B, σ.heap n = some B → B.live = true → blkOf (ref n) ≠ some b
def cxOf (σ : St) (w : World) (ref : Nat → Value) : Cx := { ref, dom := fun n => ∃ B, σ.heap n = some B, w, ok := okOf σ w ref }
structure RepAt (base : Nat) (σ : St) (a : Act) (w : World) (ref : Nat → Value) : Prop where
  size : a.tmps.size = σ.nt
  env : ∀ k, Den (cxOf σ w ref) (σ.env k) (a.tmps.getD k Go.undef)
  blk : ∀ n B, σ.heap n = some B → BlkDen (cxOf σ w ref) base (ref n) B
  inj : ∀ n m B B' b, σ.heap n = some B → B.live = true → σ.heap m = some B' → B'.live = true → blkOf (ref n) = some b → blkOf (ref m) = some b → n = m
structure Rep (base : Nat) (w0 : World) (σ : St) (a : Act) (w : World) : Prop where
  defers : a.defers = []
  below : Below base w0 w
  base_le : base ≤ w.heap.size
  ref : ∃ ref, RepAt base σ a w ref

section
variable {P : Program} {base : Nat} {w0 w : World} {σ : St} {a : Act} {ref : Nat → Value} {c : Cx}
theorem ofValue_den (v : Value) : Den c (ofValue v) v := by
  unfold ofValue
  split <;> simp [Den]
theorem opVal_den (h : RepAt base σ a w ref) (x : Operand) : Den (cxOf σ w ref) (opVal σ.env x) (a.eval x) := by
  cases x with
  | tmp t => exact h.env t
  | const v => exact ofValue_den v
  | global g => trivial
  | func f => rfl

theorem wrap_in {k : IntKind} {z : Int} (h : inK k z) : k.wrap z = z := by
  cases k <;> simp only [inK] at h
  · exact IntWalk.i8_in z h
  · exact IntWalk.i16_in z h
  · exact IntWalk.i32_in z h
  · exact IntWalk.i64_in z h
  · exact IntWalk.u8_in z h
  · exact IntWalk.u16_in z h
  · exact IntWalk.u32_in z h
  · exact IntWalk.u64_in z h
theorem arith_den {wr : Bool} {k : IntKind} {z : Int} {p : Nd} {v : AV} (h : arith wr k z = some (p, v)) (hp : p.ok) : Den c v (.int k (k.wrap z)) := by
  unfold arith at h
  split at h
  · simp only [Option.some.injEq, Prod.mk.injEq] at h; obtain ⟨rfl, rfl⟩ := h; simp [Den]
  · simp only [Option.some.injEq, Prod.mk.injEq] at h; obtain ⟨rfl, rfl⟩ := h; simp [Den, wrap_in hp]
theorem toB_den {x : AV} {b : Bool} {v : Value} (h : x.toB = some b) (hd : Den c x v) : v = .bool b := by
  cases x <;> simp [AV.toB] at h <;> subst h <;> simpa [Den] using hd
theorem binOp_sound0 {wr : Bool} {op : BinOp} {x y : AV} {p : Nd} {v : AV} {u u' : Value} {t : TypeId} {ox oy : Operand} (h : resBin0 wr op x y = some (p, v)) (hp : p.ok) (hx : Den c x u) (hy : Den c y u') :
    ∃ r, ((do eqGuard op t ox oy u u'; Go.binOp op t u u' : Sem Value)).run P w = .ok r w ∧ Den c v r := by
  unfold resBin0 at h
  split at h
  · rename_i k a k' b
    simp only [Den] at hx hy
    subst hx hy
    by_cases hk : k = k'
    · subst hk
      simp only [decide_true, cond_true] at h
      cases op <;> simp only [Option.some.injEq, Prod.mk.injEq, reduceCtorEq] at h
      case add => exact ⟨_, by simp [eqGuard, Go.binOp, Op.intArith], arith_den h hp⟩
      case sub => exact ⟨_, by simp [eqGuard, Go.binOp, Op.intArith], arith_den h hp⟩
      case mul => exact ⟨_, by simp [eqGuard, Go.binOp, Op.intArith], arith_den h hp⟩
      case quo =>
        cases wr <;> simp only [Option.some.injEq, Prod.mk.injEq] at h <;> obtain ⟨rfl, rfl⟩ := h
        · obtain ⟨h1, h2⟩ := hp
          exact ⟨.int k (k.wrap (a.tdiv b)), by simp [eqGuard, Go.binOp, Op.intDiv, h1], by simp [Den, wrap_in h2]⟩
        · exact ⟨.int k (k.wrap (a.tdiv b)), by simp [eqGuard, Go.binOp, Op.intDiv, hp], by simp [Den]⟩
      case rem =>
        obtain ⟨rfl, rfl⟩ := h
        exact ⟨.int k (a.tmod b), by simp [eqGuard, Go.binOp, Op.intDiv, hp], by simp [Den]⟩
      all_goals
        obtain ⟨rfl, rfl⟩ := h
        exact ⟨_, by simp [eqGuard, Go.binOp, Op.intCmp]; rfl, by simp [Den]⟩
    · simp [hk] at h
  · rename_i s s'
    simp only [Den] at hx hy
    subst hx hy
    cases op <;> simp only [Option.some.injEq, Prod.mk.injEq, reduceCtorEq] at h
    · obtain ⟨rfl, rfl⟩ := h
      exact ⟨.string (⟨s.toArray⟩ ++ ⟨s'.toArray⟩), by simp [eqGuard, Go.binOp, Op.stringOp, ByteArray.size, IntKind.max, IntKind.signed, IntKind.bits]; omega, by simp only [Den]; congr 1; try (apply ByteArray.ext; simp)⟩
    · obtain ⟨rfl, rfl⟩ := h
      refine ⟨_, by simp [eqGuard, Go.binOp, Op.stringOp]; rfl, ?_⟩
      simp only [Den]; congr 1; rw [Bool.eq_iff_iff]; simp [ByteArray.toList_eq]
    · obtain ⟨rfl, rfl⟩ := h
      refine ⟨_, by simp [eqGuard, Go.binOp, Op.stringOp]; rfl, ?_⟩
      simp only [Den]; congr 1; rw [Bool.eq_iff_iff]; simp [ByteArray.toList_eq]
  · simp at h
theorem un_sound {wr : Bool} {op : UnOp} {x : AV} {p : Nd} {v : AV} {u : Value} (h : resUn wr op x = some (p, v)) (hp : p.ok) (hx : Den c x u) : ∃ r, (Op.unary op u).run P w = .ok r w ∧ Den c v r := by
  unfold resUn at h
  split at h
  · simp only [Den] at hx; subst hx
    exact ⟨_, by simp [Op.unary, Op.intArith], arith_den h hp⟩
  all_goals first | (simp at h; done) | skip
  all_goals
    simp only [Option.some.injEq, Prod.mk.injEq] at h
    obtain ⟨rfl, rfl⟩ := h
    simp only [Den] at hx; subst hx
    exact ⟨_, by simp [Op.unary]; rfl, by simp [Den]⟩
theorem pick_sound {x y z v : AV} {p : Nd} {u u1 u2 : Value} (h : resPick x y z = some (p, v)) (hx : Den c x u) (h1 : Den c y u1) (h2 : Den c z u2) :
    ∃ b, u = .bool b ∧ Den c v (if b then u1 else u2) := by
  unfold resPick at h
  split at h
  · rename_i b
    simp only [Den] at hx
    split at h <;> simp only [Option.some.injEq, Prod.mk.injEq] at h <;> obtain ⟨rfl, rfl⟩ := h
    · exact ⟨_, hx, by simpa using h1⟩
    · exact ⟨_, hx, by simpa using h2⟩
  · rename_i b
    split at h
    · rename_i q r hq hr
      simp only [Option.some.injEq, Prod.mk.injEq] at h; obtain ⟨rfl, rfl⟩ := h
      have e1 := toB_den hq h1
      have e2 := toB_den hr h2
      subst e1 e2
      exact ⟨b, hx, by cases b <;> simp [Den]⟩
    · simp at h
  · simp at h
theorem conv_sound {wr : Bool} {src dst : TypeId} {x v : AV} {p : Nd} {u : Value} (h : resConv P wr src dst x = some (p, v)) (hp : p.ok) (hx : Den c x u) :
    ∃ r, (Go.convert src dst u).run P w = .ok r w ∧ Den c v r := by
  unfold resConv at h
  split at h
  · rename_i d k k0 n hs hd
    simp only [Den] at hx
    subst hx
    refine ⟨_, ?_, arith_den h hp⟩
    simp only [Go.convert, Go.underlying, Sem.run_bind, run_program, Result.andThen_ok, hs, hd]
    cases d <;> simp [Conv.intToInt]
  · simp at h
theorem decT_den : ∀ {t : Ty} {l : List AV} {x : t.den} {vs : List Value}, decT t l = some x → DenL c l vs → DenL c (enc t x) vs
  | .int k, l, x, vs, h, hd => by
    change decI k l = some x at h
    unfold decI at h
    split at h
    · rename_i k' n
      by_cases hk : k' = k
      · subst hk
        simp only [decide_true, cond_true, Option.some.injEq] at h
        subst h; exact hd
      · simp [hk] at h
    · simp at h
  | .bool, l, x, vs, h, hd => by
    change decB l = some x at h
    unfold decB at h
    split at h <;> simp only [Option.some.injEq, reduceCtorEq] at h <;> subst h <;> exact hd
  | .str, l, x, vs, h, hd => by
    change decS l = some x at h
    unfold decS at h
    split at h <;> simp only [Option.some.injEq, reduceCtorEq] at h
    subst h; exact hd
  | .seq t, l, x, vs, h, hd => by
    change decQ t l = some x at h
    unfold decQ at h
    split at h
    · rename_i t' xs
      split at h
      · rename_i he
        subst he
        simp only [Option.some.injEq] at h
        subst h; exact hd
      · simp at h
    · simp only [Option.some.injEq] at h
      subst h
      obtain ⟨v, vs', rfl, h1, h2⟩ := hd
      simp only [DenL] at h2
      subst h2
      have h1 : v = .slice none 0 0 := h1
      subst h1
      exact ⟨_, [], rfl, ⟨none, 0, rfl, Nat.le_refl _, .inl rfl⟩, rfl⟩
    · simp at h
  | .pair a b, l, x, vs, h, hd => by
    change (match decT a (l.take a.size), decT b (l.drop a.size) with
      | some x, some y => some (x, y)
      | _, _ => none) = some x at h
    split at h
    · rename_i y z h1 h2
      simp only [Option.some.injEq] at h
      subst h
      have := (decT_den h1 (hd.take a.size)).append (decT_den h2 (hd.drop a.size))
      rwa [List.take_append_drop] at this
    · simp at h
end
end Sx
end Go.Proofs.Ytkmpkiiofochnaa
