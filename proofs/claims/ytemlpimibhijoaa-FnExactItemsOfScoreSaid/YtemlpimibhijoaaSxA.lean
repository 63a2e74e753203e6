/- An evaluator of Go code over abstract states (definitions and the plain facts on what a value reads as). Conditions: as each says. -/
import Derived.Orders
import Derived.Below
import Derived.Laws.Sem
import Derived.KernelRfl
set_option linter.unusedSimpArgs false
set_option linter.unusedVariables false
namespace Go.Proofs.Ytemlpimibhijoaa
open Go.RowKit
namespace Sx

/-! ### data -/
inductive Ty where
  | int (k : IntKind) | bool | str | pair (a b : Ty) | seq (t : Ty)
  | deep (t : Ty)
deriving instance DecidableEq for Ty
@[reducible] def Ty.den : Ty → Type
  | .int _ => Int
  | .bool => Bool
  | .str => List UInt8
  | .pair a b => a.den × b.den
  | .seq t => List t.den
  | .deep t => t.den
def Ty.size : Ty → Nat
  | .pair a b => a.size + b.size
  | .deep t => t.size
  | _ => 1
def Ty.isDeep : Ty → Bool
  | .deep _ => true
  | _ => false

def Ty.zero : (t : Ty) → t.den
  | .int _ => (0 : Int)
  | .bool => false
  | .str => []
  | .pair a b => (a.zero, b.zero)
  | .seq _ => []
  | .deep t => t.zero
theorem Ty.size_pos : ∀ t : Ty, 0 < t.size
  | .pair a b => by have := Ty.size_pos a; simp [Ty.size]; omega
  | .int _ => by simp [Ty.size]
  | .bool => by simp [Ty.size]
  | .str => by simp [Ty.size]
  | .seq _ => by simp [Ty.size]
  | .deep t => Ty.size_pos t

inductive AV where
  | int (k : IntKind) (n : Int)
  | bool (b : Bool)
  | lit (b : Bool)
  | str (s : List UInt8)
  | undef
  | unk
  | fn (f : FuncId)
  | ptr (nm off : Nat)
  | elt (sz : Nat) (nm : Nat) (i : Nat) (off : Nat)
  | velt (t : Ty) (x : t.den) (off : Nat)
  | agg (cs : List AV)
  | tup (vs : List AV)
  | view (t : Ty) (xs : List t.den)
  | own (t : Ty) (xs : List t.den)
  | row (nm : Nat)
  | nilS
  | empS
  | guess (q : Prop)
  | clo (f : FuncId) (cs : List AV)
  | part (sz nm off n : Nat)
  | inr (i off : Nat)
def enc : (t : Ty) → t.den → List AV
  | .int k, z => [.int k z]
  | .bool, b => [.bool b]
  | .str, s => [.str s]
  | .pair a b, x => enc a x.1 ++ enc b x.2
  | .seq t, xs => [.view t xs]
  | .deep t, x => enc t x
theorem enc_length : ∀ (t : Ty) (x : t.den), (enc t x).length = t.size
  | .int _, _ => rfl
  | .bool, _ => rfl
  | .str, _ => rfl
  | .pair a b, x => by simp [enc, Ty.size, enc_length]
  | .seq _, _ => rfl
  | .deep t, x => enc_length t x

inductive Blk where
  | box (cs : List AV)
  | row (t : Ty) (xs : List t.den)
  | dead
  | hole (t e : Ty) (xs : List t.den) (i off d : Nat)
def Blk.live : Blk → Bool
  | .dead => false
  | _ => true

/-! ### what an abstract value says of a value -/
/-- Under what the names stand for, which names there are, the world, and which blocks may be looked into. -/
structure Cx where
  ref : Nat → Value
  dom : Nat → Prop
  w : World
  ok : Nat → Prop
def cellsAt (w : World) (b off : Nat) (vs : List Value) : Prop := ∀ j (h : j < vs.length), w.cell? ⟨b, off + j, none⟩ = some vs[j]
def Reads (w : World) (ok : Nat → Prop) : (t : Ty) → t.den → List Value → Prop
  | .int k, z, vs => vs = [.int k z]
  | .bool, b, vs => vs = [.bool b]
  | .str, s, vs => vs = [.string ⟨s.toArray⟩]
  | .pair a b, x, vs => ∃ v1 v2, vs = v1 ++ v2 ∧ Reads w ok a x.1 v1 ∧ Reads w ok b x.2 v2
  | .seq t, xs, vs => ∃ a cap, vs = [.slice a xs.length cap] ∧ xs.length ≤ cap ∧ (xs = [] ∨ ∃ b o, a = some ⟨b, o, none⟩ ∧ ok b ∧ ∀ i (h : i < xs.length), ∃ us, Reads w ok t xs[i] us ∧ cellsAt w b (o + i * t.size) us)
  | .deep t, x, vs => Reads w ok t x vs
theorem Reads.length {w : World} {ok : Nat → Prop} : ∀ {t : Ty} {x : t.den} {vs : List Value}, Reads w ok t x vs → vs.length = t.size
  | .int _, _, _, h => by simp only [Reads] at h; subst h; rfl
  | .bool, _, _, h => by simp only [Reads] at h; subst h; rfl
  | .str, _, _, h => by simp only [Reads] at h; subst h; rfl
  | .pair _ _, _, _, h => by
    obtain ⟨v1, v2, rfl, h1, h2⟩ := h
    simp [Ty.size, Reads.length h1, Reads.length h2]
  | .seq _, _, _, h => by obtain ⟨_, _, rfl, _⟩ := h; rfl
  | .deep t, _, _, h => Reads.length (t := t) h
theorem Reads.mono {w w' : World} {ok ok' : Nat → Prop} (hok : ∀ b, ok b → ok' b) (hc : ∀ b o, ok b → w'.cell? ⟨b, o, none⟩ = w.cell? ⟨b, o, none⟩) : ∀ {t : Ty} {x : t.den} {vs : List Value}, Reads w ok t x vs → Reads w' ok' t x vs
  | .int _, _, _, h => h
  | .bool, _, _, h => h
  | .str, _, _, h => h
  | .pair _ _, _, _, h => by
    obtain ⟨v1, v2, rfl, h1, h2⟩ := h
    exact ⟨v1, v2, rfl, h1.mono hok hc, h2.mono hok hc⟩
  | .seq t, xs, _, h => by
    obtain ⟨a, cap, rfl, hcap, h⟩ := h
    refine ⟨a, cap, rfl, hcap, h.imp id ?_⟩
    rintro ⟨b, o, rfl, hb, h⟩
    refine ⟨b, o, rfl, hok b hb, fun i hi => ?_⟩
    obtain ⟨us, h1, h2⟩ := h i hi
    exact ⟨us, h1.mono hok hc, fun j hj => (hc _ _ hb).trans (h2 j hj)⟩
  | .deep t, _, _, h => Reads.mono (t := t) hok hc h

/-- What a name stands for; a row of rows stands for the slice and, behind it, the slices in its elements. -/
def headV : Value → Value
  | .tuple vs => vs.toList.headD Go.undef
  | v => v
@[simp] theorem headV_slice (a : Option Addr) (n cap : Nat) : headV (.slice a n cap) = .slice a n cap := rfl

mutual
def Den (c : Cx) : AV → Value → Prop
  | .int k n, v => v = .int k n
  | .bool b, v => v = .bool b
  | .lit b, v => v = .bool b
  | .str s, v => v = .string ⟨s.toArray⟩
  | .undef, v => v = Go.undef
  | .unk, _ => True
  | .fn f, v => v = .func (.func f) #[] #[]
  | .ptr nm off, v => c.dom nm ∧ ∃ b, c.ref nm = .pointer (some ⟨b, 0, none⟩) ∧ v = .pointer (some ⟨b, off, none⟩)
  | .elt sz nm i off, v => c.dom nm ∧ ∃ b o n cap, headV (c.ref nm) = .slice (some ⟨b, o, none⟩) n cap ∧ v = .pointer (some ⟨b, o + (i * sz + off), none⟩)
  | .velt t x off, v => ∃ b o us, v = .pointer (some ⟨b, o, none⟩) ∧ c.ok b ∧ Reads c.w c.ok t x us ∧ cellsAt c.w b o (us.drop off)
  | .agg cs, v => ∃ vs : List Value, v = .agg vs.toArray ∧ DenL c cs vs
  | .tup cs, v => ∃ vs : List Value, v = .tuple vs.toArray ∧ DenL c cs vs
  | .view t xs, v => Reads c.w c.ok (.seq t) xs [v]
  | .own t xs, v => Reads c.w c.ok (.seq t) xs [v]
  | .row nm, v => c.dom nm ∧ v = headV (c.ref nm) ∧ ∃ a n cap, v = .slice a n cap
  | .nilS, v => v = .slice none 0 0
  | .empS, v => ∃ a, v = .slice a 0 0
  | .guess q, v => ∃ b, v = .bool b ∧ (b = true → q)
  | .clo f cs, v => ∃ vs : List Value, v = .func (.func f) #[] vs.toArray ∧ DenL c cs vs
  | .inr i _, v => c.dom 700000 ∧ ∃ s ins a n cap, c.ref 700000 = .tuple (List.toArray (s :: ins)) ∧ ins[i]? = some v ∧ v = .slice a n cap
  | .part sz nm off n, v => c.dom nm ∧ ∃ b o N cap a cap', headV (c.ref nm) = .slice (some ⟨b, o, none⟩) N cap ∧ v = .slice a n cap' ∧ cap' + off = cap ∧ off + n ≤ N ∧ (n = 0 ∨ a = some ⟨b, o + off * sz, none⟩)
def DenL (c : Cx) : List AV → List Value → Prop
  | [], vs => vs = []
  | x :: xs, vs => ∃ v vs', vs = v :: vs' ∧ Den c x v ∧ DenL c xs vs'
end
structure Cx.le (c c' : Cx) : Prop where
  dom : ∀ n, c.dom n → c'.dom n
  ref : ∀ n, c.dom n → c'.ref n = c.ref n
  ok : ∀ b, c.ok b → c'.ok b
  cell : ∀ b o, c.ok b → c'.w.cell? ⟨b, o, none⟩ = c.w.cell? ⟨b, o, none⟩
mutual
theorem Den.mono {c c' : Cx} (h : c.le c') : ∀ {x : AV} {v : Value}, Den c x v → Den c' x v
  | .int _ _, _, hd => hd
  | .bool _, _, hd => hd
  | .lit _, _, hd => hd
  | .str _, _, hd => hd
  | .undef, _, hd => hd
  | .unk, _, hd => hd
  | .fn _, _, hd => hd
  | .ptr nm off, _, hd => by
    obtain ⟨h1, b, h2, h3⟩ := hd
    exact ⟨h.dom _ h1, b, (h.ref _ h1).trans h2, h3⟩
  | .elt t nm i off, _, hd => by
    obtain ⟨h1, b, o, n, cap, h2, h3⟩ := hd
    exact ⟨h.dom _ h1, b, o, n, cap, (congrArg headV (h.ref _ h1)).trans h2, h3⟩
  | .part sz nm off n, _, hd => by
    obtain ⟨h1, b, o, N, cap, a, cap', h2, h3⟩ := hd
    exact ⟨h.dom _ h1, b, o, N, cap, a, cap', (congrArg headV (h.ref _ h1)).trans h2, h3⟩
  | .inr i _, _, hd => by
    obtain ⟨h1, s, ins, a, n, cap, h2, h3⟩ := hd
    exact ⟨h.dom _ h1, s, ins, a, n, cap, (h.ref _ h1).trans h2, h3⟩
  | .velt t x off, _, hd => by
    obtain ⟨b, o, us, h1, h2, h3, h4⟩ := hd
    exact ⟨b, o, us, h1, h.ok _ h2, h3.mono h.ok h.cell, fun j hj => (h.cell _ _ h2).trans (h4 j hj)⟩
  | .agg cs, _, hd => by
    obtain ⟨vs, h1, h2⟩ := hd
    exact ⟨vs, h1, DenL.mono h h2⟩
  | .tup cs, _, hd => by
    obtain ⟨vs, h1, h2⟩ := hd
    exact ⟨vs, h1, DenL.mono h h2⟩
  | .view _ _, _, hd => Reads.mono h.ok h.cell hd
  | .own _ _, _, hd => Reads.mono h.ok h.cell hd
  | .row nm, _, hd => ⟨h.dom _ hd.1, hd.2.1.trans (congrArg headV (h.ref _ hd.1)).symm, hd.2.2⟩
  | .nilS, _, hd => hd
  | .empS, _, hd => hd
  | .guess _, _, hd => hd
  | .clo f cs, _, hd => by
    obtain ⟨vs, h1, h2⟩ := hd
    exact ⟨vs, h1, DenL.mono h h2⟩
theorem DenL.mono {c c' : Cx} (h : c.le c') : ∀ {xs : List AV} {vs : List Value}, DenL c xs vs → DenL c' xs vs
  | [], _, hd => hd
  | x :: xs, _, hd => by
    obtain ⟨v, vs', rfl, h1, h2⟩ := hd
    exact ⟨v, vs', rfl, Den.mono h h1, DenL.mono h h2⟩
end
theorem DenL.length {c : Cx} : ∀ {xs : List AV} {vs : List Value}, DenL c xs vs → vs.length = xs.length
  | [], _, h => by simp only [DenL] at h; subst h; rfl
  | x :: xs, _, h => by
    obtain ⟨v, vs', rfl, _, h2⟩ := h
    simp [DenL.length h2]
theorem DenL.get {c : Cx} : ∀ {xs : List AV} {vs : List Value} (_ : DenL c xs vs) (i : Nat) {x : AV}, xs[i]? = some x → ∃ v, vs[i]? = some v ∧ Den c x v
  | [], _, _, i, _, hx => by simp at hx
  | y :: xs, _, h, i, x, hx => by
    obtain ⟨v, vs', rfl, h1, h2⟩ := h
    cases i with
    | zero => simp at hx; subst hx; exact ⟨v, rfl, h1⟩
    | succ i => simp at hx; simpa using DenL.get h2 i hx
theorem DenL.append {c : Cx} : ∀ {xs ys : List AV} {vs us : List Value}, DenL c xs vs → DenL c ys us → DenL c (xs ++ ys) (vs ++ us)
  | [], _, _, _, h, h' => by simp only [DenL] at h; subst h; exact h'
  | x :: xs, ys, _, us, h, h' => by
    obtain ⟨v, vs', rfl, h1, h2⟩ := h
    exact ⟨v, vs' ++ us, rfl, h1, DenL.append h2 h'⟩
theorem DenL.drop {c : Cx} : ∀ {xs : List AV} {vs : List Value} (n : Nat), DenL c xs vs → DenL c (xs.drop n) (vs.drop n)
  | _, _, 0, h => h
  | [], _, n + 1, h => by simp only [DenL] at h; subst h; simp [DenL]
  | x :: xs, _, n + 1, h => by
    obtain ⟨v, vs', rfl, h1, h2⟩ := h
    exact DenL.drop n h2
theorem DenL.take {c : Cx} : ∀ {xs : List AV} {vs : List Value} (n : Nat), DenL c xs vs → DenL c (xs.take n) (vs.take n)
  | xs, _, 0, _ => by simp [DenL]
  | [], _, n + 1, h => by simp only [DenL] at h; subst h; simp [DenL]
  | x :: xs, _, n + 1, h => by
    obtain ⟨v, vs', rfl, h1, h2⟩ := h
    exact ⟨v, vs'.take n, rfl, h1, DenL.take n h2⟩
theorem DenL.set {c : Cx} : ∀ {xs : List AV} {vs : List Value} (i : Nat) {x : AV} {v : Value}, DenL c xs vs → Den c x v → DenL c (xs.set i x) (vs.set i v)
  | [], _, i, _, _, h, _ => by simp only [DenL] at h; subst h; simp [DenL]
  | y :: xs, _, 0, x, v, h, hx => by
    obtain ⟨u, vs', rfl, h1, h2⟩ := h
    exact ⟨v, vs', rfl, hx, h2⟩
  | y :: xs, _, i + 1, x, v, h, hx => by
    obtain ⟨u, vs', rfl, h1, h2⟩ := h
    exact ⟨u, vs'.set i v, rfl, h1, DenL.set i h2 hx⟩
theorem enc_den {c : Cx} : ∀ {t : Ty} {x : t.den} {vs : List Value}, Reads c.w c.ok t x vs → DenL c (enc t x) vs
  | .int _, _, _, h => by simp only [Reads] at h; subst h; exact ⟨_, [], rfl, rfl, rfl⟩
  | .bool, _, _, h => by simp only [Reads] at h; subst h; exact ⟨_, [], rfl, rfl, rfl⟩
  | .str, _, _, h => by simp only [Reads] at h; subst h; exact ⟨_, [], rfl, rfl, rfl⟩
  | .pair _ _, _, _, h => by
    obtain ⟨v1, v2, rfl, h1, h2⟩ := h
    exact DenL.append (enc_den h1) (enc_den h2)
  | .seq t, xs, _, h => by
    obtain ⟨a, cap, rfl, _⟩ := id h
    exact ⟨_, [], rfl, h, rfl⟩
  | .deep t, _, _, h => enc_den (t := t) h
/-- One cell's value. -/
def AV.one : AV → Bool
  | .agg _ | .tup _ | .undef | .unk => false
  | _ => true
theorem Den.one {c : Cx} {x : AV} {v : Value} (h : Den c x v) (hx : x.one = true) : v.oneCell' = true := by
  cases x <;> simp only [AV.one, Bool.false_eq_true] at hx <;> simp only [Den] at h
  case int => subst h; rfl
  case bool => subst h; rfl
  case lit => subst h; rfl
  case str => subst h; rfl
  case fn => subst h; rfl
  case ptr => obtain ⟨_, b, _, rfl⟩ := h; rfl
  case elt => obtain ⟨_, b, o, n, cap, _, rfl⟩ := h; rfl
  case velt => obtain ⟨b, o, us, rfl, _⟩ := h; rfl
  case view => obtain ⟨a, cap, h, _⟩ := h; injection h with h; subst h; rfl
  case own => obtain ⟨a, cap, h, _⟩ := h; injection h with h; subst h; rfl
  case row => obtain ⟨_, _, a, n, cap, rfl⟩ := h; rfl
  case nilS => subst h; rfl
  case empS => obtain ⟨a, rfl⟩ := h; rfl
  case guess => obtain ⟨a, rfl, _⟩ := h; rfl
  case clo => obtain ⟨vs, rfl, _⟩ := h; rfl
  case part => obtain ⟨_, b, o, N, cap, a, cap', _, rfl, _⟩ := h; rfl
  case inr => obtain ⟨_, s, ins, a, n, cap, _, _, rfl⟩ := h; rfl
theorem enc_one : ∀ (t : Ty) (x : t.den), (enc t x).all AV.one = true
  | .int _, _ => rfl
  | .bool, _ => rfl
  | .str, _ => rfl
  | .pair a b, x => by simp [enc, enc_one a x.1, enc_one b x.2]
  | .seq _, _ => rfl
  | .deep t, x => enc_one t x
end Sx
end Go.Proofs.Ytemlpimibhijoaa
