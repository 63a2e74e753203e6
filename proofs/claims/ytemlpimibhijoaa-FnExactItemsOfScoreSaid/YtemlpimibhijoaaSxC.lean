/- The evaluator is sound: single operations. Conditions: as each says. -/
import Derived.Test.YtemlpimibhijoaaSxB
import Derived.IntWalk
import Derived.Laws.Strings
set_option linter.unusedSimpArgs false
set_option linter.unusedVariables false
namespace Go.Proofs.Ytemlpimibhijoaa
open Go.RowKit
namespace Sx

/-- The block that a value leads to; a slice without room leads nowhere. -/
def blkOf : Value → Option Nat
  | .pointer (some a) => some a.block
  | .slice (some a) _ cap => if cap = 0 then none else some a.block
  | _ => none
/-- Whose blocks a value leads to; a tuple, that stands for a row of rows, leads to those of all its parts. -/
def Owns : Value → Nat → Prop
  | .tuple vs, b => ∃ u ∈ vs.toList, blkOf u = some b
  | v, b => blkOf v = some b
theorem owns_slice {a : Addr} {n cap b : Nat} (h : Owns (.slice (some a) n cap) b) : a.block = b := by
  simp only [Owns, blkOf] at h
  split at h
  · simp at h
  · simpa using h
theorem owns_some {a : Addr} {n cap : Nat} (h : 0 < cap) : Owns (.slice (some a) n cap) a.block := by
  simp only [Owns, blkOf]
  rw [if_neg (by omega)]
theorem owns_zero {a : Option Addr} {n b : Nat} : ¬ Owns (.slice a n 0) b := by
  cases a <;> simp [Owns, blkOf]
theorem owns_ptr {a : Addr} {b : Nat} : Owns (.pointer (some a)) b ↔ a.block = b := by simp [Owns, blkOf]
theorem owns_undef {b : Nat} : ¬ Owns Go.undef b := by simp [Owns, blkOf, Go.undef]
/-- Whose blocks: all from n on, and those that are lent. -/
structure Base where
  n : Nat
  br : Nat → Prop
  lv : Option Value := none
  okc : Nat → Prop := fun _ => True
/-- The name that a lent row has with the callee. -/
@[reducible] def BR : Nat := 700000
def Base.own (B : Base) (b : Nat) : Prop := B.n ≤ b ∨ B.br b
@[reducible] def Base.of (n : Nat) (okc : Nat → Prop := fun _ => True) : Base := { n, br := fun _ => False, okc }
def Base.sees (B : Base) (b : Nat) : Prop := B.own b ∨ B.okc b
/-- What is not one's own stays as it is. -/
structure Bel (B : Base) (w w' : World) : Prop where
  os : w'.os = w.os
  tape : w'.tape = w.tape
  output : w'.output = w.output
  size : w.heap.size ≤ w'.heap.size
  block : ∀ k, k < B.n → ¬ B.br k → w'.heap[k]? = w.heap[k]?
theorem Bel.refl (B : Base) (w : World) : Bel B w w := ⟨rfl, rfl, rfl, Nat.le_refl _, fun _ _ _ => rfl⟩
theorem Bel.trans {B : Base} {a b c : World} (h : Bel B a b) (k : Bel B b c) : Bel B a c :=
  ⟨k.os.trans h.os, k.tape.trans h.tape, k.output.trans h.output, Nat.le_trans h.size k.size, fun i hi hb => (k.block i hi hb).trans (h.block i hi hb)⟩
theorem Bel.lift {B B' : Base} {w w' : World} (h : Bel B' w w') (hk : ∀ k, k < B.n → ¬ B.br k → k < B'.n ∧ ¬ B'.br k) : Bel B w w' :=
  ⟨h.os, h.tape, h.output, h.size, fun k h1 h2 => h.block k (hk k h1 h2).1 (hk k h1 h2).2⟩
theorem Bel.mono {B : Base} {n : Nat} {oc : Nat → Prop} {w w' : World} (h : Bel (Base.of n oc) w w') (hn : B.n ≤ n) : Bel B w w' :=
  h.lift fun k h1 _ => ⟨Nat.lt_of_lt_of_le h1 hn, id⟩
theorem Bel.below {n : Nat} {oc : Nat → Prop} {w w' : World} (h : Bel (Base.of n oc) w w') : Below n w w' := ⟨h.os, h.tape, h.output, h.size, fun k hk => h.block k hk id⟩
theorem Bel.of {n : Nat} {w w' : World} (h : Below n w w') : Bel (Base.of n) w w' := ⟨h.os, h.tape, h.output, h.size, fun k hk _ => h.block k hk⟩
theorem Bel.drew {B : Base} {w w' : World} (h : Bel B w w') : Bel B w w'.drew :=
  ⟨h.os, h.tape, h.output, h.size, h.block⟩
theorem Bel.alloc {B : Base} {w w' : World} (h : Bel B w w') (hn : B.n ≤ w'.heap.size) (o : Obj) : Bel B w (w'.alloc o) :=
  ⟨h.os, h.tape, h.output, Nat.le_trans h.size (by simp), fun k hk hb => by
    rw [← h.block k hk hb]
    show (w'.heap.push o)[k]? = _
    rw [Array.getElem?_push, if_neg (by omega)]⟩
/-- What lies in the world for contracts that lean on tables of the library; nothing, in a seat without such. -/
def GN : Nat := 0
def Inv (w : World) : Prop := True
theorem Inv_keep {w w' : World} (h : ∀ b, b < GN → w'.heap[b]? = w.heap[b]?) (hi : Inv w) : Inv w' := trivial
structure Good (B : Base) (w : World) : Prop where
  inv : Inv w
  n : GN ≤ B.n
  br : ∀ b, B.br b → GN ≤ b
theorem Good.bel {B : Base} {w w' : World} (h : Good B w) (hb : Bel B w w') : Good B w' :=
  ⟨Inv_keep (fun b h1 => hb.block b (Nat.lt_of_lt_of_le h1 h.n) fun h2 => by have := h.br b h2; omega) h.inv, h.n, h.br⟩
theorem Good.own_le {B : Base} {w : World} (h : Good B w) {b : Nat} (hb : B.own b) : GN ≤ b := hb.elim (fun h' => Nat.le_trans h.n h') (h.br b)
def RowAt (w : World) (ok : Nat → Prop) (t : Ty) (xs : List t.den) (vs : List Value) : Prop :=
  vs.length = xs.length * t.size ∧ ∀ i (h : i < xs.length), ∃ us, Reads w ok t xs[i] us ∧ ∀ j, j < us.length → vs[i * t.size + j]? = us[j]?
/-- A row in a block of its own. -/
def RowOld (c : Cx) (base : Base) (v : Value) (t : Ty) (xs : List t.den) : Prop :=
  ((∃ a, v = .slice a 0 0) ∧ xs = []) ∨ ∃ b cap vs rest ty pre, v = .slice (some ⟨b, List.length pre, none⟩) xs.length cap ∧ base.own b ∧ c.w.heap[b]? = some (.cells (List.toArray (pre ++ (vs ++ rest))) ty (0, 0)) ∧
      RowAt c.w c.ok t xs vs ∧ vs.length + rest.length = cap * t.size ∧ xs.length ≤ cap ∧ 0 < cap
/-- The cells of an element whose rows are its own, and these rows. -/
def DeepR (c : Cx) (base : Base) : (t : Ty) → t.den → List Value → List Value → Prop
  | .int k, z, vs, ins => vs = [.int k z] ∧ ins = []
  | .bool, b, vs, ins => vs = [.bool b] ∧ ins = []
  | .str, s, vs, ins => vs = [.string ⟨s.toArray⟩] ∧ ins = []
  | .pair a b, x, vs, ins => ∃ v1 v2 i1 i2, vs = v1 ++ v2 ∧ ins = i1 ++ i2 ∧ DeepR c base a x.1 v1 i1 ∧ DeepR c base b x.2 v2 i2
  | .seq t, xs, vs, ins => ∃ v, vs = [v] ∧ ins = [v] ∧ t.flat = true ∧ RowOld c base v t xs
  | .deep _, _, _, _ => False
def DeepAt (c : Cx) (base : Base) (t : Ty) : List t.den → List Value → List Value → Prop
  | [], vs, ins => vs = [] ∧ ins = []
  | x :: xs, vs, ins => ∃ v1 v2 i1 i2, vs = v1 ++ v2 ∧ ins = i1 ++ i2 ∧ DeepR c base t x v1 i1 ∧ DeepAt c base t xs v2 i2
/-- A row of rows: its slice, and the slices in its elements, no two of which share a block. -/
def DeepRow (c : Cx) (base : Base) (v : Value) (t : Ty) (xs : List t.den) : Prop :=
  ∃ s ins, v = .tuple (List.toArray (s :: ins)) ∧ (s :: ins).Pairwise (fun x y => ∀ b, blkOf x = some b → blkOf y ≠ some b) ∧
    (((∃ a, s = .slice a 0 0) ∧ xs = [] ∧ ins = []) ∨ ∃ b cap vs rest ty pre, s = .slice (some ⟨b, List.length pre, none⟩) xs.length cap ∧ base.own b ∧ c.w.heap[b]? = some (.cells (List.toArray (pre ++ (vs ++ rest))) ty (0, 0)) ∧
      DeepAt c base t xs vs ins ∧ vs.length + rest.length = cap * t.size ∧ xs.length ≤ cap ∧ 0 < cap)
def RowDen (c : Cx) (base : Base) (v : Value) : (t : Ty) → List t.den → Prop
  | .deep t, xs => DeepRow c base v t xs
  | .int k, xs => RowOld c base v (.int k) xs
  | .bool, xs => RowOld c base v .bool xs
  | .str, xs => RowOld c base v .str xs
  | .pair a b, xs => RowOld c base v (.pair a b) xs
  | .seq t, xs => RowOld c base v (.seq t) xs
theorem row_plain {c : Cx} {base : Base} {v : Value} {t : Ty} {xs : List t.den} (h : t.isDeep = false) : RowDen c base v t xs ↔ RowOld c base v t xs := by
  cases t <;> first | exact Iff.rfl | (simp [Ty.isDeep] at h)
/-- A row of rows of which one element's row is away: whatever row comes back, with it the row of rows is whole. -/
def HoleAt (c : Cx) (B : Base) (t e : Ty) (xs : List t.den) (i off : Nat) (vs ia ic : List Value) : Prop :=
  ∀ (c' : Cx) (B' : Base), (∀ u' ∈ ia ++ ic, ∀ b, blkOf u' = some b → (B.own b → B'.own b) ∧ c'.w.heap[b]? = c.w.heap[b]?) →
    ∀ (u : Value) (l : List e.den) (y : t.den), RowOld c' B' u e l → decT t (sp1 (enc t (xs.getD i t.zero)) off (.view e l)) = some y → DeepAt c' B' t (xs.set i y) (vs.set (i * t.size + off) u) (ia ++ (u :: ic))
def HoleDen (c : Cx) (B : Base) (v : Value) (t e : Ty) (xs : List t.den) (i off : Nat) (u0 : Value) : Prop :=
  ∃ s ia ic, v = .tuple (List.toArray (s :: (ia ++ ic))) ∧ (s :: (ia ++ ic)).Pairwise (fun x y => ∀ b, blkOf x = some b → blkOf y ≠ some b) ∧ e.flat = true ∧
    ∃ b cap vs rest ty pre, s = .slice (some ⟨b, List.length pre, none⟩) xs.length cap ∧ B.own b ∧ c.w.heap[b]? = some (.cells (List.toArray (pre ++ (vs ++ rest))) ty (0, 0)) ∧
      (∀ u' ∈ ia ++ ic, ∀ b', blkOf u' = some b' → B.own b' ∧ b' < c.w.heap.size) ∧ HoleAt c B t e xs i off vs ia ic ∧ vs[i * t.size + off]? = some u0 ∧ i < xs.length ∧ off < t.size ∧
      vs.length = xs.length * t.size ∧ vs.length + rest.length = cap * t.size ∧ xs.length ≤ cap ∧ 0 < cap
def BlkDen (c : Cx) (base : Base) (v : Value) : Blk → Prop
  | .box cs => ∃ b vs ty, v = .pointer (some ⟨b, 0, none⟩) ∧ base.own b ∧ c.w.heap[b]? = some (.cells (List.toArray vs) ty (0, 0)) ∧ DenL c cs vs
  | .row t xs => RowDen c base v t xs
  | .dead => True
  | .hole t e xs i off d => c.dom d ∧ HoleDen c base v t e xs i off (headV (c.ref d))
theorem BlkDen.hv {c : Cx} {base : Base} {v : Value} {t : Ty} {xs : List t.den} (h : BlkDen c base v (.row t xs)) (hp : t.isDeep = false) : headV v = v := by
  rcases (row_plain hp).1 h with ⟨⟨a, h⟩, e⟩ | ⟨b, cap, vs, rest, ty, pre, h, g⟩ <;> rw [h] <;> rfl
theorem BlkDen.old {c : Cx} {base : Base} {v : Value} {t : Ty} {xs : List t.den} (h : BlkDen c base v (.row t xs)) (hp : t.isDeep = false) : RowOld c base v t xs := (row_plain hp).1 h
theorem BlkDen.hd {c : Cx} {base : Base} {v : Value} {t : Ty} {xs : List t.den} (h : BlkDen c base v (.row t xs)) (hp : t.isDeep = false) : ((∃ a, headV v = .slice a 0 0) ∧ xs = []) ∨ ∃ b cap vs rest ty pre, headV v = .slice (some ⟨b, List.length pre, none⟩) xs.length cap ∧ base.own b ∧ c.w.heap[b]? = some (.cells (List.toArray (pre ++ (vs ++ rest))) ty (0, 0)) ∧
      RowAt c.w c.ok t xs vs ∧ vs.length + rest.length = cap * t.size ∧ xs.length ≤ cap ∧ 0 < cap := by
  rcases (row_plain hp).1 h with ⟨⟨a, h⟩, e⟩ | ⟨b, cap, vs, rest, ty, pre, h, g⟩
  · exact .inl ⟨⟨a, by rw [h]; rfl⟩, e⟩
  · exact .inr ⟨b, cap, vs, rest, ty, pre, by rw [h]; rfl, g⟩
def okOf (base : Base) (σ : St) (w : World) (ref : Nat → Value) (b : Nat) : Prop := b < w.heap.size ∧ base.sees b ∧ ∀ n B, σ.heap n = some B → B.live = true → ¬ Owns (ref n) b
def cxOf (base : Base) (σ : St) (w : World) (ref : Nat → Value) : Cx := { ref, dom := fun n => ∃ B, σ.heap n = some B, w, ok := okOf base σ w ref }
structure RepAt (base : Base) (σ : St) (a : Act) (w : World) (ref : Nat → Value) : Prop where
  size : a.tmps.size = σ.nt
  env : ∀ k, Den (cxOf base σ w ref) (σ.env k) (a.tmps.getD k Go.undef)
  blk : ∀ n B, σ.heap n = some B → BlkDen (cxOf base σ w ref) base (ref n) B
  inj : ∀ n m B B' b, σ.heap n = some B → B.live = true → σ.heap m = some B' → B'.live = true → Owns (ref n) b → Owns (ref m) b → n = m
  le : σ.nt ≤ BR
  lent : ∀ u, base.lv = some u → σ.heap BR ≠ none → ref BR = u
structure Rep (base : Base) (w0 : World) (σ : St) (a : Act) (w : World) : Prop where
  defers : a.defers = []
  below : Bel base w0 w
  base_le : base.n ≤ w.heap.size
  ref : ∃ ref, RepAt base σ a w ref

section
variable {P : Program} {base : Base} {w0 w : World} {σ : St} {a : Act} {ref : Nat → Value} {c : Cx}
theorem ofValue_den (v : Value) : Den c (ofValue v) v := by
  unfold ofValue
  split <;> simp [Den]
theorem opVal_den (h : RepAt base σ a w ref) (x : Operand) : Den (cxOf base σ w ref) (opVal σ.env x) (a.eval x) := by
  cases x with
  | tmp t => exact h.env t
  | const v => exact ofValue_den v
  | global g => trivial
  | func f => rfl

theorem wrap_in {k : IntKind} {z : Int} (h : inK k z) : k.wrap z = z := by
  cases k <;> simp only [inK] at h
  · exact IntWalk.i8_in z h
  · exact IntWalk.i16_in z h
  · exact IntWalk.i32_in z h
  · exact IntWalk.i64_in z h
  · exact IntWalk.u8_in z h
  · exact IntWalk.u16_in z h
  · exact IntWalk.u32_in z h
  · exact IntWalk.u64_in z h
theorem arith_den {wr : Bool} {k : IntKind} {z : Int} {p : Nd} {v : AV} (h : arith wr k z = some (p, v)) (hp : p.ok) : Den c v (.int k (k.wrap z)) := by
  unfold arith at h
  split at h
  · simp only [Option.some.injEq, Prod.mk.injEq] at h; obtain ⟨rfl, rfl⟩ := h; simp [Den]
  · simp only [Option.some.injEq, Prod.mk.injEq] at h; obtain ⟨rfl, rfl⟩ := h; simp [Den, wrap_in hp]
theorem toB_den {x : AV} {b : Bool} {v : Value} (h : x.toB = some b) (hd : Den c x v) : v = .bool b := by
  cases x <;> simp [AV.toB] at h <;> subst h <;> simpa [Den] using hd
theorem binOp_sound0 {wr : Bool} {op : BinOp} {x y : AV} {p : Nd} {v : AV} {u u' : Value} {t : TypeId} {ox oy : Operand} (h : resBin0 wr op x y = some (p, v)) (hp : p.ok) (hx : Den c x u) (hy : Den c y u') :
    ∃ r, ((do eqGuard op t ox oy u u'; Go.binOp op t u u' : Sem Value)).run P w = .ok r w ∧ Den c v r := by
  unfold resBin0 at h
  split at h
  · rename_i k a k' b
    simp only [Den] at hx hy
    subst hx hy
    by_cases hk : k = k'
    · subst hk
      simp only [decide_true, cond_true] at h
      cases op <;> simp only [Option.some.injEq, Prod.mk.injEq, reduceCtorEq] at h
      case add => exact ⟨_, by simp [eqGuard, Go.binOp, Op.intArith], arith_den h hp⟩
      case sub => exact ⟨_, by simp [eqGuard, Go.binOp, Op.intArith], arith_den h hp⟩
      case mul => exact ⟨_, by simp [eqGuard, Go.binOp, Op.intArith], arith_den h hp⟩
      case quo =>
        cases wr <;> simp only [Option.some.injEq, Prod.mk.injEq] at h <;> obtain ⟨rfl, rfl⟩ := h
        · obtain ⟨h1, h2⟩ := hp
          exact ⟨.int k (k.wrap (a.tdiv b)), by simp [eqGuard, Go.binOp, Op.intDiv, h1], by simp [Den, wrap_in h2]⟩
        · exact ⟨.int k (k.wrap (a.tdiv b)), by simp [eqGuard, Go.binOp, Op.intDiv, hp], by simp [Den]⟩
      case rem =>
        obtain ⟨rfl, rfl⟩ := h
        exact ⟨.int k (a.tmod b), by simp [eqGuard, Go.binOp, Op.intDiv, hp], by simp [Den]⟩
      case and =>
        obtain ⟨rfl, rfl⟩ := h
        obtain ⟨h1, h2, h3⟩ := hp
        refine ⟨.int k ((a.toNat &&& b.toNat : Nat) : Int), ?_, rfl⟩
        have e : ∀ n : Nat, n ≤ 64 → ∀ z : Int, 0 ≤ z → z ≤ 9223372036854775807 → n = 64 → (BitVec.ofInt n z).toNat = z.toNat := fun n _ z g1 g2 hn => by
          subst hn
          rw [BitVec.toNat_ofInt]
          omega
        have hlt : (a.toNat &&& b.toNat) ≤ a.toNat := Nat.and_le_left
        have hin : inK k ((a.toNat &&& b.toNat : Nat) : Int) := by
          rcases h3 with rfl | rfl <;> simp only [inK] <;> omega
        have hk64 : k.bits = 64 := by rcases h3 with rfl | rfl <;> rfl
        simp only [eqGuard, Go.binOp, Op.intBits, Sem.run_bind, Sem.run_pure, Result.andThen_ok, ne_eq, not_true, if_false, BitVec.toNat_and, e _ (by omega) a h1.1 h1.2 hk64, e _ (by omega) b h2.1 h2.2 hk64, wrap_in hin, Bool.not_false, if_true, ite_self]
      case shr =>
        obtain ⟨rfl, rfl⟩ := h
        obtain ⟨h1, h3⟩ := hp
        refine ⟨.int k (a / 2 ^ b.toNat), ?_, rfl⟩
        have hk64 : k.bits = 64 := by rcases h3 with rfl | rfl <;> rfl
        have hm : min b.toNat k.bits = b.toNat := by rw [hk64]; omega
        have hf : a.fdiv (2 ^ b.toNat) = a / 2 ^ b.toNat := Int.fdiv_eq_ediv_of_nonneg _ (by exact Int.le_of_lt (Int.pow_pos (by decide)))
        have hneg : ¬ b < 0 := by omega
        simp only [eqGuard, Go.binOp, Op.shift, Sem.run_bind, Sem.run_pure, Result.andThen_ok, hm, hf, if_neg hneg, Bool.not_false, if_true, ite_self]
      all_goals
        obtain ⟨rfl, rfl⟩ := h
        exact ⟨_, by simp [eqGuard, Go.binOp, Op.intCmp]; rfl, by simp [Den]⟩
    · simp only [hk, decide_false, cond_false] at h
      split at h
      · simp only [Option.some.injEq, Prod.mk.injEq] at h
        obtain ⟨rfl, rfl⟩ := h
        obtain ⟨h1, h3⟩ := hp
        refine ⟨.int k (a / 2 ^ b.toNat), ?_, rfl⟩
        have hk64 : k.bits = 64 := by rcases h3 with rfl | rfl <;> rfl
        have hm : min b.toNat k.bits = b.toNat := by rw [hk64]; omega
        have hf : a.fdiv (2 ^ b.toNat) = a / 2 ^ b.toNat := Int.fdiv_eq_ediv_of_nonneg _ (by exact Int.le_of_lt (Int.pow_pos (by decide)))
        have hneg : ¬ b < 0 := by omega
        simp only [eqGuard, Go.binOp, Op.shift, Sem.run_bind, Sem.run_pure, Result.andThen_ok, hm, hf, if_neg hneg, Bool.not_false, if_true, ite_self]
      · simp at h
  · rename_i s s'
    simp only [Den] at hx hy
    subst hx hy
    cases op <;> simp only [Option.some.injEq, Prod.mk.injEq, reduceCtorEq] at h
    · obtain ⟨rfl, rfl⟩ := h
      exact ⟨.string (⟨s.toArray⟩ ++ ⟨s'.toArray⟩), by simp [eqGuard, Go.binOp, Op.stringOp, ByteArray.size, IntKind.max, IntKind.signed, IntKind.bits]; omega, by simp only [Den]; congr 1; try (apply ByteArray.ext; simp)⟩
    · obtain ⟨rfl, rfl⟩ := h
      refine ⟨_, by simp [eqGuard, Go.binOp, Op.stringOp]; rfl, ?_⟩
      simp only [Den]; congr 1; rw [Bool.eq_iff_iff]; simp [ByteArray.toList_eq]
    · obtain ⟨rfl, rfl⟩ := h
      refine ⟨_, by simp [eqGuard, Go.binOp, Op.stringOp]; rfl, ?_⟩
      simp only [Den]; congr 1; rw [Bool.eq_iff_iff]; simp [ByteArray.toList_eq]
  · simp at h
theorem un_sound {wr : Bool} {op : UnOp} {x : AV} {p : Nd} {v : AV} {u : Value} (h : resUn wr op x = some (p, v)) (hp : p.ok) (hx : Den c x u) : ∃ r, (Op.unary op u).run P w = .ok r w ∧ Den c v r := by
  unfold resUn at h
  split at h
  · simp only [Den] at hx; subst hx
    exact ⟨_, by simp [Op.unary, Op.intArith], arith_den h hp⟩
  all_goals first | (simp at h; done) | skip
  all_goals
    simp only [Option.some.injEq, Prod.mk.injEq] at h
    obtain ⟨rfl, rfl⟩ := h
    simp only [Den] at hx; subst hx
    exact ⟨_, by simp [Op.unary]; rfl, by simp [Den]⟩
theorem pick_sound {x y z v : AV} {p : Nd} {u u1 u2 : Value} (h : resPick x y z = some (p, v)) (hx : Den c x u) (h1 : Den c y u1) (h2 : Den c z u2) :
    ∃ b, u = .bool b ∧ Den c v (if b then u1 else u2) := by
  unfold resPick at h
  split at h
  · rename_i b
    simp only [Den] at hx
    split at h <;> simp only [Option.some.injEq, Prod.mk.injEq] at h <;> obtain ⟨rfl, rfl⟩ := h
    · exact ⟨_, hx, by simpa using h1⟩
    · exact ⟨_, hx, by simpa using h2⟩
  · rename_i b
    split at h
    · rename_i q r hq hr
      simp only [Option.some.injEq, Prod.mk.injEq] at h; obtain ⟨rfl, rfl⟩ := h
      have e1 := toB_den hq h1
      have e2 := toB_den hr h2
      subst e1 e2
      exact ⟨b, hx, by cases b <;> simp [Den]⟩
    · simp at h
  · simp at h
theorem conv_sound {wr : Bool} {src dst : TypeId} {x v : AV} {p : Nd} {u : Value} (h : resConv P wr src dst x = some (p, v)) (hp : p.ok) (hx : Den c x u) :
    ∃ r, (Go.convert src dst u).run P w = .ok r w ∧ Den c v r := by
  unfold resConv at h
  split at h
  · rename_i d k k0 n hs hd
    simp only [Den] at hx
    subst hx
    refine ⟨_, ?_, arith_den h hp⟩
    simp only [Go.convert, Go.underlying, Sem.run_bind, run_program, Result.andThen_ok, hs, hd]
    cases d <;> simp [Conv.intToInt]
  · simp at h
theorem decT_den : ∀ {t : Ty} {l : List AV} {x : t.den} {vs : List Value}, decT t l = some x → DenL c l vs → DenL c (enc t x) vs
  | .int k, l, x, vs, h, hd => by
    change decI k l = some x at h
    unfold decI at h
    split at h
    · rename_i k' n
      by_cases hk : k' = k
      · subst hk
        simp only [decide_true, cond_true, Option.some.injEq] at h
        subst h; exact hd
      · simp [hk] at h
    · simp at h
  | .bool, l, x, vs, h, hd => by
    change decB l = some x at h
    unfold decB at h
    split at h <;> simp only [Option.some.injEq, reduceCtorEq] at h <;> subst h <;> exact hd
  | .str, l, x, vs, h, hd => by
    change decS l = some x at h
    unfold decS at h
    split at h <;> simp only [Option.some.injEq, reduceCtorEq] at h
    subst h; exact hd
  | .seq t, l, x, vs, h, hd => by
    change decQ t l = some x at h
    unfold decQ at h
    split at h
    · rename_i t' xs
      split at h
      · rename_i he
        subst he
        simp only [Option.some.injEq] at h
        subst h; exact hd
      · simp at h
    · simp only [Option.some.injEq] at h
      subst h
      obtain ⟨v, vs', rfl, h1, h2⟩ := hd
      simp only [DenL] at h2
      subst h2
      have h1 : v = .slice none 0 0 := h1
      subst h1
      exact ⟨_, [], rfl, ⟨none, 0, rfl, Nat.le_refl _, .inl rfl⟩, rfl⟩
    · simp at h
  | .deep t, l, x, vs, h, hd => decT_den (t := t) h hd
  | .pair a b, l, x, vs, h, hd => by
    change (match decT a (l.take a.size), decT b (l.drop a.size) with
      | some x, some y => some (x, y)
      | _, _ => none) = some x at h
    split at h
    · rename_i y z h1 h2
      simp only [Option.some.injEq] at h
      subst h
      have := (decT_den h1 (hd.take a.size)).append (decT_den h2 (hd.drop a.size))
      rwa [List.take_append_drop] at this
    · simp at h
end
end Sx
end Go.Proofs.Ytemlpimibhijoaa
