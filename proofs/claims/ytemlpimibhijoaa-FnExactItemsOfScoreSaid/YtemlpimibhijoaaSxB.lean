/- The evaluator: what an operation, a region, a piece of code does to an abstract state (definitions). -/
import Derived.Test.YtemlpimibhijoaaSxA
set_option linter.unusedSimpArgs false
set_option linter.unusedVariables false
namespace Go.Proofs.Ytemlpimibhijoaa
open Go.RowKit
namespace Sx

/-- What has to hold for an operation to go well: nothing, or this. -/
inductive Nd where
  | tt
  | p (q : Prop)
@[reducible] def Nd.ok : Nd → Prop
  | .tt => True
  | .p q => q
structure OwnD where
  t : Ty
  xs : List t.den
/-- The type of cells, as they stand. -/
structure TyD where
  t : Ty
  x : t.den
/-- A contract: of a function that reads; of one that writes into the row that it is handed; of one that takes this row over. -/
inductive Ct where
  | rd (f : List AV → Option (Nd × AV))
  | wt (f : List AV → Option (Nd × AV × OwnD))
  | mv (f : List AV → Option (Nd × AV))
  | bx (f : TyD → List AV → Option (Nd × AV × TyD))
  | nb (f : List AV → Option (Nd × TyD))

def decI (k : IntKind) (l : List AV) : Option Int :=
  match l with
  | [.int k' n] => bif decide (k' = k) then some n else none
  | _ => none
def decB (l : List AV) : Option Bool :=
  match l with
  | [.bool b] => some b
  | [.lit b] => some b
  | _ => none
def decS (l : List AV) : Option (List UInt8) :=
  match l with
  | [.str s] => some s
  | _ => none
def castT {t t' : Ty} (h : t' = t) (xs : List t'.den) : List t.den := h ▸ xs
def decQ (t : Ty) (l : List AV) : Option (List t.den) :=
  match l with
  | [.view t' xs] => if h : t' = t then some (castT h xs) else none
  | [.nilS] => some []
  | _ => none
def decT : (t : Ty) → List AV → Option t.den
  | .int k, l => decI k l
  | .bool, l => decB l
  | .str, l => decS l
  | .seq t, l => decQ t l
  | .deep t, l => decT t l
  | .pair a b, l => match decT a (l.take a.size), decT b (l.drop a.size) with
    | some x, some y => some (x, y)
    | _, _ => none
def AV.toB : AV → Option Bool
  | .bool b => some b
  | .lit b => some b
  | _ => none
def ofValue : Value → AV
  | .int k n => .int k n
  | .bool b => .lit b
  | .string s => .str s.data.toList
  | .slice none 0 0 => .nilS
  | _ => .unk
def inK : IntKind → Int → Prop
  | .i8, z => -128 ≤ z ∧ z ≤ 127
  | .i16, z => -32768 ≤ z ∧ z ≤ 32767
  | .i32, z => -2147483648 ≤ z ∧ z ≤ 2147483647
  | .i64, z => -9223372036854775808 ≤ z ∧ z ≤ 9223372036854775807
  | .u8, z => 0 ≤ z ∧ z ≤ 255
  | .u16, z => 0 ≤ z ∧ z ≤ 65535
  | .u32, z => 0 ≤ z ∧ z ≤ 4294967295
  | .u64, z => 0 ≤ z ∧ z ≤ 18446744073709551615

abbrev PR := Option (Nd × AV)
def arith (wr : Bool) (k : IntKind) (z : Int) : PR :=
  match wr with
  | true => some (.tt, .int k (k.wrap z))
  | false => some (.p (inK k z), .int k z)
def resBin0 (wr : Bool) (op : BinOp) (x y : AV) : PR :=
  match x, y with
  | .int k a, .int k' b =>
    bif decide (k = k') then
      match op with
      | .add => arith wr k (a + b)
      | .sub => arith wr k (a - b)
      | .mul => arith wr k (a * b)
      | .quo => match wr with
        | true => some (.p (b ≠ 0), .int k (k.wrap (a.tdiv b)))
        | false => some (.p (b ≠ 0 ∧ inK k (a.tdiv b)), .int k (a.tdiv b))
      | .rem => some (.p (b ≠ 0), .int k (a.tmod b))
      | .eql => some (.tt, .bool (a == b))
      | .neq => some (.tt, .bool (a != b))
      | .lss => some (.tt, .bool (decide (a < b)))
      | .leq => some (.tt, .bool (decide (a ≤ b)))
      | .gtr => some (.tt, .bool (decide (b < a)))
      | .geq => some (.tt, .bool (decide (b ≤ a)))
      | .and => some (.p ((0 ≤ a ∧ a ≤ 9223372036854775807) ∧ (0 ≤ b ∧ b ≤ 9223372036854775807) ∧ (k = .i64 ∨ k = .u64)), .int k (((a.toNat &&& b.toNat : Nat) : Int)))
      | .shr => some (.p ((0 ≤ b ∧ b ≤ 63) ∧ (k = .i64 ∨ k = .u64)), .int k (a / 2 ^ b.toNat))
      | _ => none
    else
      match op with
      | .shr => some (.p ((0 ≤ b ∧ b ≤ 63) ∧ (k = .i64 ∨ k = .u64)), .int k (a / 2 ^ b.toNat))
      | _ => none
  | .str a, .str b =>
    match op with
    | .add => some (.p ((a.length : Int) + (b.length : Int) ≤ 9223372036854775807), .str (a ++ b))
    | .eql => some (.tt, .bool (decide (a = b)))
    | .neq => some (.tt, .bool (!decide (a = b)))
    | _ => none
  | _, _ => none
def resUn (wr : Bool) (op : UnOp) (x : AV) : PR :=
  match op, x with
  | .neg, .int k a => arith wr k (0 - a)
  | .not, .lit b => some (.tt, .lit (!b))
  | .not, .bool b => some (.tt, .bool (!b))
  | _, _ => none
def resPick (c x y : AV) : PR :=
  match c with
  | .lit b => match b with
    | true => some (.tt, x)
    | false => some (.tt, y)
  | .bool b => match x.toB, y.toB with
    | some p, some q => some (.tt, .bool (bif b then p else q))
    | _, _ => none
  | _ => none
def resConv (P : Program) (wr : Bool) (src dst : TypeId) (x : AV) : PR :=
  match P.underlying src, P.underlying dst, x with
  | some _, some (.int k), .int _ n => arith wr k n
  | _, _, _ => none
/-- Is the type a struct or an array? Its cells. -/
def aggOf (P : Program) (t : TypeId) : Option (Bool × Nat) :=
  match P.underlying t, P.info? t with
  | some (.struct _), some i => some (true, i.size)
  | some (.array _ _), some i => some (true, i.size)
  | some _, some i => some (false, i.size)
  | _, _ => none
/-- The value of a type that lies in these cells. -/
def partOf (P : Program) (t : TypeId) (cs : List AV) (off : Nat) : Option AV :=
  match aggOf P t with
  | some (true, n) => bif Nat.ble (off + n) cs.length then some (.agg ((cs.drop off).take n)) else none
  | some (false, _) => cs[off]?
  | none => none
/-- Are two values of a type equal? -/
def eqAV (P : Program) : Nat → TypeId → AV → AV → Option Bool
  | 0, _, _, _ => none
  | n + 1, t, x, y => match P.underlying t with
    | some (.int _) => match x, y with
      | .int k a, .int k' b => bif decide (k = k') then some (a == b) else none
      | _, _ => none
    | some .bool => match x.toB, y.toB with
      | some a, some b => some (a == b)
      | _, _ => none
    | some .string => match x, y with
      | .str a, .str b => some (decide (a = b))
      | _, _ => none
    | some (.struct fs) => match x, y with
      | .agg xs, .agg ys => bif P.stoodInHeld t then none else fields (eqAV P n) xs ys fs.toList
      | _, _ => none
    | _ => none
where fields (f : TypeId → AV → AV → Option Bool) (xs ys : List AV) : List Field → Option Bool
  | [] => some true
  | fd :: rest => match bif fd.name == "_" then none else partOf P fd.type xs fd.offset, partOf P fd.type ys fd.offset with
    | some a, some b => match rest with
      | [] => f fd.type a b
      | _ :: _ => match f fd.type a b, fields f xs ys rest with
        | some p, some q => some (p && q)
        | _, _ => none
    | _, _ => none
def isAggB : AV → Bool
  | .agg _ => true
  | .bool _ => true
  | .lit _ => true
  | _ => false
def resBin (P : Program) (wr : Bool) (op : BinOp) (t : TypeId) (x y : AV) : PR :=
  bif isAggB x then
    bif P.eqGuardType P.depth t then none else
    match op with
    | .eql => (eqAV P 6 t x y).map fun b => (.tt, .bool b)
    | .neq => (eqAV P 6 t x y).map fun b => (.tt, .bool (!b))
    | _ => none
  else resBin0 wr op x y
def fieldOf (P : Program) (s : TypeId) (f : Nat) : Option Field :=
  match P.underlying s with
  | some (.struct fields) => fields[f]?
  | _ => none
def resField (P : Program) (s : TypeId) (x : AV) (f : Nat) : PR :=
  match fieldOf P s f, x with
  | some fd, .agg cs => (partOf P fd.type cs fd.offset).map fun v => (.tt, v)
  | _, _ => none
def resExtract (x : AV) (i : Nat) : PR :=
  match x with
  | .tup vs => (vs[i]?).map fun v => (.tt, v)
  | _ => none
def elemSize (P : Program) (t : TypeId) : Option Nat :=
  match P.underlying t with
  | some (.slice e) => (P.info? e).map (·.size)
  | _ => none
def resFieldAddr (P : Program) (s : TypeId) (x : AV) (f : Nat) : PR :=
  match fieldOf P s f with
  | some fd =>
    bif decide (((P.info? fd.type).map (·.size)).getD 0 = 0) then none else
    match x with
    | .ptr nm off => some (.tt, .ptr nm (off + fd.offset))
    | .elt sz nm i off => some (.tt, .elt sz nm i (off + fd.offset))
    | .velt t x off => bif Nat.ble (off + fd.offset) t.size then some (.tt, .velt t x (off + fd.offset)) else none
    | _ => none
  | none => none
def getT (t : Ty) (xs : List t.den) (i : Int) : t.den := xs.getD i.toNat t.zero
def resIndexAddr (P : Program) (h : Nat → Option Blk) (t : TypeId) (x i : AV) : PR :=
  match elemSize P t, i with
  | some n, .int _ z =>
    match x with
    | .view t' xs => bif Nat.beq n t'.size then some (.p (0 ≤ z ∧ z < (xs.length : Int)), .velt t' (getT t' xs z) 0) else none
    | .row nm => match h nm with
      | some (.row t' xs) => bif Nat.beq n t'.size then some (.p (0 ≤ z ∧ z < (xs.length : Int)), .elt t'.size nm z.toNat 0) else none
      | _ => none
    | .part sz nm off m => bif Nat.beq n sz then some (.p (0 ≤ z ∧ z < (m : Int)), .elt sz nm (off + z.toNat) 0) else none
    | _ => none
  | _, _ => none
def resIndex (P : Program) (t : TypeId) (x i : AV) : PR :=
  match P.underlying t, x, i with
  | some .string, .str s, .int _ z => some (.p (0 ≤ z ∧ z < (s.length : Int)), .int .u8 ((s.getD z.toNat 0).toNat : Int))
  | _, _, _ => none
/-- The bounds of a slice expression, as they stand: low, high, greatest; what has to hold of them. -/
structure Bnd where
  lo : Int
  hi : Int
  need : Prop
def bnds (n : Int) (l h : Bool) (vals : List AV) : Option Bnd :=
  match l, h, vals with
  | false, false, [] => some ⟨0, n, True⟩
  | true, false, [.int _ a] => some ⟨a, n, 0 ≤ a ∧ a ≤ n⟩
  | false, true, [.int _ b] => some ⟨0, b, 0 ≤ b ∧ b ≤ n⟩
  | true, true, [.int _ a, .int _ b] => some ⟨a, b, 0 ≤ a ∧ a ≤ b ∧ b ≤ n⟩
  | _, _, _ => none
def cutL {α : Type} (xs : List α) (lo hi : Int) : List α := (xs.take hi.toNat).drop lo.toNat
/-- Three bounds, all of them 0. -/
def zero3 (l : Bool) (vals : List AV) : Option Prop :=
  match l, vals with
  | false, [.int _ b, .int _ m] => some (b = 0 ∧ m = 0)
  | true, [.int _ a, .int _ b, .int _ m] => some (a = 0 ∧ b = 0 ∧ m = 0)
  | _, _ => none
def sliceLike (h : Nat → Option Blk) (x : AV) : Bool :=
  match x with
  | .view _ _ => true
  | .nilS => true
  | .empS => true
  | .row nm => match h nm with
    | some (.row _ _) => true
    | _ => false
  | _ => false
def resSlice (P : Program) (h : Nat → Option Blk) (t : TypeId) (l hh m : Bool) (x : AV) (vals : List AV) : PR :=
  match P.underlying t with
  | some .string => match x with
    | .str s => bif m then none else match bnds (s.length : Int) l hh vals with
      | some b => some (.p b.need, .str (cutL s b.lo b.hi))
      | none => none
    | _ => none
  | some (.slice e) =>
    bif (P.info? e).isNone then none else
    bif m then
      bif sliceLike h x && hh then match zero3 l vals with
        | some q => some (.p q, .empS)
        | none => none
      else none
    else match x with
      | .view t' xs => match elemSize P t with
        | some n => bif Nat.beq n t'.size then match bnds (xs.length : Int) l hh vals with
            | some b => some (.p b.need, .view t' (cutL xs b.lo b.hi))
            | none => none
          else none
        | none => none
      | .row nm => match h nm, elemSize P t with
        | some (.row t' xs), some n => bif Nat.beq n t'.size then match bnds (xs.length : Int) l hh vals with
            | some b => some (.p (b.need ∧ 0 < xs.length), .part t'.size nm b.lo.toNat (b.hi.toNat - b.lo.toNat))
            | none => none
          else none
        | _, _ => none
      | _ => none
  | _ => none
def cellsOfH (h : Nat → Option Blk) (x : AV) : Option (Nd × List AV × Nat) :=
  match x with
  | .ptr nm off => match h nm with
    | some (.box cs) => some (.tt, cs, off)
    | _ => none
  | .elt sz nm i off => match h nm with
    | some (.row t xs) => bif Nat.beq sz t.size then some (.p (i < xs.length), enc t (xs.getD i t.zero), off) else none
    | _ => none
  | .velt t x off => some (.tt, enc t x, off)
  | _ => none
def resLoad (P : Program) (h : Nat → Option Blk) (t : TypeId) (x : AV) : PR :=
  match cellsOfH h x with
  | some (p, cs, off) => (partOf P t cs off).map fun v => (p, v)
  | none => none
def lenOf (h : Nat → Option Blk) (x : AV) : Option Int :=
  match x with
  | .view _ xs => some (xs.length : Int)
  | .str s => some (s.length : Int)
  | .nilS => some 0
  | .empS => some 0
  | .part _ _ _ n => some (n : Int)
  | .row nm => match h nm with
    | some (.row _ xs) => some (xs.length : Int)
    | _ => none
  | _ => none
def resLen (P : Program) (h : Nat → Option Blk) (t : TypeId) (x : AV) : PR :=
  match P.underlying t, x with
  | some .string, .str _ => (lenOf h x).map fun n => (.tt, .int .i64 n)
  | some (.slice _), .str _ => none
  | some (.slice _), _ => (lenOf h x).map fun n => (.tt, .int .i64 n)
  | _, _ => none
def resMM (mx : Bool) (x y : AV) : PR :=
  match x, y with
  | .int k a, .int k' b => bif decide (k = k') then some (.tt, .int k (bif mx then max a b else min a b)) else none
  | _, _ => none
def resNil (x : AV) : PR :=
  match x with
  | .ptr nm off => some (.tt, .ptr nm off)
  | .elt sz nm i off => some (.tt, .elt sz nm i off)
  | .velt t y off => some (.tt, .velt t y off)
  | _ => none
/-- A slice, asked whether it is nil: where it is, it has no elements. -/
def resNilEq (P : Program) (h : Nat → Option Blk) (op : BinOp) (t : TypeId) (x y : AV) : PR :=
  match op, y, P.underlying t with
  | .eql, .nilS, some (.slice _) => match x with
    | .view _ xs => some (.tt, .guess (xs = []))
    | .nilS => some (.tt, .lit true)
    | .row nm => match h nm with
      | some (.row _ xs) => some (.tt, .guess (xs = []))
      | _ => none
    | _ => none
  | _, _, _ => none
/-- What an operation without memory of its own yields. -/
def resPure (P : Program) (wr : Bool) (h : Nat → Option Blk) (op : Op) (vals : List AV) : PR :=
  match op, vals with
  | .move _, [x] => some (.tt, x)
  | .assign _, [x] => some (.tt, x)
  | .pick _ _ _, [c, x, y] => resPick c x y
  | .binOp op t _ _ _, [x, y] => match resNilEq P h op t x y with
    | some r => some r
    | none => resBin P wr op t x y
  | .unOp op _ _, [x] => resUn wr op x
  | .convert s d _, [x] => resConv P wr s d x
  | .field s _ f, [x] => resField P s x f
  | .extract _ i, [x] => resExtract x i
  | .fieldAddr s _ f, [x] => resFieldAddr P s x f
  | .indexAddr t _ _, [x, i] => resIndexAddr P h t x i
  | .index t _ _, [x, i] => resIndex P t x i
  | .load t _, [x] => resLoad P h t x
  | .nilCheck _, [x] => resNil x
  | .slice t _ l hh m, x :: vs => resSlice P h t l.isSome hh.isSome m.isSome x vs
  | .makeFunc (.func f) ⟨[]⟩ _, vs => some (.tt, .clo f vs)
  | .call { callee := .builtin .len, args := _, argTypes := ts }, [x] => match ts[0]? with
    | some t => resLen P h t x
    | none => none
  | .call { callee := .builtin .max, args := _, argTypes := _ }, [x, y] => resMM true x y
  | .call { callee := .builtin .min, args := _, argTypes := _ }, [x, y] => resMM false x y
  | _, _ => none

def cellsOf : AV → Option (List AV)
  | .agg cs => some cs
  | .tup _ => none
  | .undef => none
  | .unk => none
  | x => some [x]
/-- cells, from a place on, set anew. -/
def splice (cs : List AV) (off : Nat) (vs : List AV) : List AV := cs.take off ++ vs ++ cs.drop (off + vs.length)
def sizeOfT (P : Program) (t : TypeId) : Option Nat := (P.info? t).map (·.size)
def zeroOf (P : Program) (t : TypeId) : Option (List AV) :=
  match (P.info? t).bind (·.zero) with
  | some v => some (v.cells.toList.map ofValue)
  | none => none
def isUnk : AV → Bool
  | .unk => true
  | _ => false
def fillL (place : Nat → Option (Nat × Nat)) (cs : List AV) : List (Nat × AV) → Option (List AV)
  | [] => some cs
  | (i, v) :: rest =>
    match place i, cellsOf v with
    | some (off, n), some us => bif Nat.beq us.length n && Nat.ble (off + n) cs.length then fillL place (splice cs off us) rest else none
    | _, _ => none
def placeOf (P : Program) (t : TypeId) (i : Nat) : Option (Nat × Nat) :=
  match fieldOf P t i with
  | some fd => (sizeOfT P fd.type).map fun n => (fd.offset, n)
  | none => none
def isStruct (P : Program) (t : TypeId) : Bool :=
  match P.underlying t with
  | some (.struct fs) => fs.toList.all fun f => (P.info? f.type).isSome
  | _ => false
def enterable (P : Program) (f : FuncId) : Bool :=
  match P.funcs[f]? with
  | some fn => !(fn.name == "runtime.NumGoroutine") && fn.body.isSome
  | none => false
def resBuild (P : Program) (t : TypeId) (parts : List (Nat × AV)) : PR :=
  bif isStruct P t then
    match zeroOf P t with
    | some z => (fillL (placeOf P t) z parts).map fun cs => (.tt, .agg cs)
    | none => none
  else none

def tyOf (P : Program) : Nat → TypeId → Option Ty
  | 0, _ => none
  | n + 1, t => match P.underlying t with
    | some (.int k) => some (.int k)
    | some .bool => some .bool
    | some .string => some .str
    | some (.slice e) => (tyOf P n e).map .seq
    | some (.struct fs) => fields (tyOf P n) fs.toList
    | _ => none
where fields (f : TypeId → Option Ty) : List Field → Option Ty
  | [] => none
  | [fd] => f fd.type
  | fd :: rest => match f fd.type, fields f rest with
    | some a, some b => some (.pair a b)
    | _, _ => none
def decCells (t : Ty) (v : AV) : Option t.den :=
  match cellsOf v with
  | some cs => bif Nat.beq cs.length t.size then decT t cs else none
  | none => none
def decRow (t : Ty) : List AV → Option (List t.den)
  | [] => some []
  | v :: vs => match decCells t v, decRow t vs with
    | some x, some xs => some (x :: xs)
    | _, _ => none
def isRange : Nat → List Nat → Bool
  | _, [] => true
  | n, k :: ks => Nat.beq k n && isRange (n + 1) ks
def AV.names : AV → List Nat
  | .ptr nm _ => [nm]
  | .elt _ nm _ _ => [nm]
  | .part _ nm _ _ => [nm]
  | .inr _ _ => [700000]
  | .row nm => [nm]
  | .agg cs => namesL cs
  | .tup cs => namesL cs
  | .clo _ cs => namesL cs
  | _ => []
where namesL : List AV → List Nat
  | [] => []
  | x :: xs => x.names ++ namesL xs

def Ty.flat : Ty → Bool
  | .pair a b => a.flat && b.flat
  | .seq _ => false
  | .deep _ => false
  | _ => true
/-- The type of an element whose rows lead nowhere further. -/
def Ty.dOk : Ty → Bool
  | .pair a b => a.dOk && b.dOk
  | .seq t => t.flat
  | .deep _ => false
  | _ => true
/-- The type of a row that leads nowhere but to itself. -/
def Ty.okR (t : Ty) : Bool := t.flat || t.isDeep
/-- The rows that a result brings along. -/
def ownsOf : AV → List OwnD
  | .own t xs => [⟨t, xs⟩]
  | .agg cs => ownsL cs
  | .tup cs => ownsL cs
  | .clo _ cs => ownsL cs
  | _ => []
where ownsL : List AV → List OwnD
  | [] => []
  | x :: xs => ownsOf x ++ ownsL xs
/-- A row of its own gets a name. -/
def rowed (nm : Nat) : AV → AV
  | .own _ _ => .row nm
  | .agg cs => .agg (rowedL cs)
  | .tup cs => .tup (rowedL cs)
  | .clo f cs => .clo f (rowedL cs)
  | x => x
where rowedL : List AV → List AV
  | [] => []
  | x :: xs => rowed nm x :: rowedL xs
/-- A value that leads nowhere but to flat rows of its own. -/
def noView : AV → Bool
  | .view _ _ => false
  | .velt _ _ _ => false
  | .ptr _ _ => false
  | .elt _ _ _ _ => false
  | .part _ _ _ _ => false
  | .inr _ _ => false
  | .row _ => false
  | .own t _ => t.okR
  | .agg cs => noViewL cs
  | .tup cs => noViewL cs
  | .clo _ cs => noViewL cs
  | _ => true
where noViewL : List AV → Bool
  | [] => true
  | x :: xs => noView x && noViewL xs
structure Res where
  need : Nd
  val : AV
  upd : List (Nat × Blk)
def PR.toRes (r : PR) : Option Res :=
  match r with
  | some (p, v) => some ⟨p, v, []⟩
  | none => none
def inferC (h : Nat → Option Blk) : AV → Option TyD
  | .int k n => some ⟨.int k, n⟩
  | .bool b => some ⟨.bool, b⟩
  | .lit b => some ⟨.bool, b⟩
  | .str s => some ⟨.str, s⟩
  | .view t xs => some ⟨.seq t, xs⟩
  | .row nm => match h nm with
    | some (.row t xs) => some ⟨.seq t, xs⟩
    | _ => none
  | _ => none
def inferL (h : Nat → Option Blk) : List AV → Option TyD
  | [] => none
  | x :: l => match l with
    | [] => inferC h x
    | y :: l => match inferC h x, inferL h (y :: l) with
      | some a, some b => some ⟨.pair a.t b.t, (a.x, b.x)⟩
      | _, _ => none
/-- An own row as one to be read: whether it is one of rows does not matter. -/
def viewOf : (t : Ty) → List t.den → AV
  | .deep t, xs => .view t xs
  | .int k, xs => .view (.int k) xs
  | .bool, xs => .view .bool xs
  | .str, xs => .view .str xs
  | .pair a b, xs => .view (.pair a b) xs
  | .seq t, xs => .view (.seq t) xs
/-- An argument as the callee sees it: a slice that the caller owns is one to be read. -/
def asArg (h : Nat → Option Blk) : AV → AV
  | .row nm => match h nm with
    | some (.row t xs) => viewOf t xs
    | _ => .unk
  | .agg cs => .agg (asArgL cs)
  | .ptr nm off => bif Nat.beq off 0 then (match h nm with
    | some (.box cs) => match inferL h cs with
      | some d => .velt d.t d.x 0
      | none => .unk
    | _ => .unk) else .unk
  | .elt _ _ _ _ => .unk
  | .part sz nm off n => match h nm with
    | some (.row t xs) => bif Nat.beq sz t.size then .view t ((xs.drop off).take n) else .unk
    | _ => .unk
  | .inr _ _ => .unk
  | .tup _ => .unk
  | .own _ _ => .unk
  | .clo f cs => .clo f (asArgL cs)
  | x => x
where asArgL : List AV → List AV
  | [] => []
  | x :: xs => asArg h x :: asArgL xs
/-- The same, an element of an own row too. -/
def asArg1 (h : Nat → Option Blk) : AV → AV
  | .elt sz nm i off => match h nm with
    | some (.row t xs) => bif Nat.beq sz t.size then .velt t (xs.getD i t.zero) off else .unk
    | _ => .unk
  | x => asArg h x
/-- Elements that are pointed to are there. -/
def eltNd (h : Nat → Option Blk) : List AV → Nd → Nd
  | [], p => p
  | .elt _ nm i _ :: l, p => match h nm with
    | some (.row _ xs) => match eltNd h l p with
      | .tt => .p (i < xs.length)
      | .p q => .p (i < xs.length ∧ q)
    | _ => eltNd h l p
  | _ :: l, p => eltNd h l p
/-- An argument as a callee sees it that writes into a row or takes it over. -/
def asOwn (h : Nat → Option Blk) : AV → AV
  | .row nm => match h nm with
    | some (.row t xs) => .own t xs
    | _ => .unk
  | .agg cs => .agg (asOwnL cs)
  | .ptr _ _ => .unk
  | .elt _ _ _ _ => .unk
  | .part _ _ _ _ => .unk
  | .inr _ _ => .unk
  | .tup _ => .unk
  | .own _ _ => .unk
  | .clo f cs => .clo f (asOwnL cs)
  | x => x
where asOwnL : List AV → List AV
  | [] => []
  | x :: xs => asOwn h x :: asOwnL xs
def plain (v : AV) : Bool := (ownsOf v).isEmpty && (v.names.isEmpty && noView v)
def rowTy (h : Nat → Option Blk) (nm : Nat) (t : Ty) : Bool :=
  match h nm with
  | some (.row t' _) => decide (t' = t) && t.okR
  | _ => false
/-- Cells in which rows of one's own are given up: views. -/
def frzB (h : Nat → Option Blk) : AV → AV
  | .int k n => .int k n
  | .bool b => .bool b
  | .lit b => .lit b
  | .str s => .str s
  | .view t xs => .view t xs
  | .nilS => .nilS
  | .row nm => match h nm with
    | some (.row t xs) => viewOf t xs
    | _ => .unk
  | .agg cs => .agg (frzBL cs)
  | _ => .unk
where frzBL : List AV → List AV
  | [] => []
  | x :: xs => frzB h x :: frzBL xs
def rowsOnly (h : Nat → Option Blk) : List Nat → Bool
  | [] => true
  | n :: ns => (match h n with
    | some (.row _ _) => true
    | _ => false) && rowsOnly h ns
def killU : List Nat → List (Nat × Blk)
  | [] => []
  | n :: ns => (n, .dead) :: killU ns
def findU : List (Nat × Blk) → Nat → Option Blk → Option Blk
  | [], _, b => b
  | (m, b) :: rest, n, z => bif Nat.beq n m then some b else findU rest n z
/-- A call that writes into the box that its first argument points to; rows among the other arguments are given up. -/
def resBox (h : Nat → Option Blk) (dst : Option Nat) (ct : TyD → List AV → Option (Nd × AV × TyD)) (nm : Nat) (rest : List AV) : Option Res :=
  match h nm with
  | some (.box cs) => match inferL h cs, AV.names.namesL cs with
    | some d, [] => bif rowsOnly h (AV.names.namesL rest) then
      match ct d (frzB.frzBL h rest) with
      | some (p, v, d') => bif noView v && v.names.isEmpty then
        match ownsOf v with
        | [] => some ⟨p, v, (nm, .box (enc d'.t d'.x)) :: killU (AV.names.namesL rest)⟩
        | [⟨t, xs⟩] => match dst with
          | some n => match h n with
            | none => some ⟨p, rowed n v, (n, .row t xs) :: (nm, .box (enc d'.t d'.x)) :: killU (AV.names.namesL rest)⟩
            | some _ => none
          | none => none
        | _ => none
        else none
      | none => none
      else none
    | _, _ => none
  | _ => none
def resCall (P : Program) (C : FuncId → Option Ct) (h : Nat → Option Blk) (dst : Option Nat) (f : FuncId) (vals : List AV) : Option Res :=
  match C f, enterable P f with
  | some (.rd ct), true => match ct (vals.map (asArg1 h)) with
    | some (p, v) => match ownsOf v with
      | [] => bif noView v || ((AV.names.namesL vals).isEmpty && v.names.isEmpty) then some ⟨eltNd h vals p, v, []⟩ else none
      | [⟨t, xs⟩] => match dst with
        | some d => match h d with
          | none => bif v.names.isEmpty && (noView v || (AV.names.namesL vals).isEmpty) then some ⟨eltNd h vals p, rowed d v, [(d, .row t xs)]⟩ else none
          | some _ => none
        | none => none
      | _ => none
    | none => none
  | some (.wt ct), true => match ct (vals.map (asOwn h)), AV.names.namesL vals with
    | some (p, v, _), [] => bif plain v then some ⟨p, v, []⟩ else none
    | some (p, v, ⟨t, xs⟩), [nm] => bif plain v && (rowTy h nm t && !(ownsOf.ownsL (vals.map (asOwn h))).isEmpty) then some ⟨p, v, [(nm, .row t xs)]⟩ else none
    | _, _ => none
  | some (.mv ct), true => match ct (vals.map (asOwn h)), AV.names.namesL vals with
    | some (p, v), [nm] => match ownsOf v with
      | [⟨t, xs⟩] => match dst with
        | some d => match h d with
          | none => bif v.names.isEmpty && noView v && (rowTy h nm t && (!(Nat.beq nm d) && !(ownsOf.ownsL (vals.map (asOwn h))).isEmpty)) then some ⟨p, rowed d v, [(d, .row t xs), (nm, .dead)]⟩ else none
          | some _ => none
        | none => none
      | _ => none
    | _, _ => none
  | some (.bx ct), true => match vals with
    | .ptr nm off :: rest => bif Nat.beq off 0 then resBox h dst ct nm rest else none
    | _ => none
  | some (.nb ct), true => match ct (vals.map (asArg1 h)), AV.names.namesL vals, dst with
    | some (p, d), [], some n => match h n with
      | none => some ⟨p, .ptr n 0, [(n, .box (enc d.t d.x))]⟩
      | some _ => none
    | _, _, _ => none
  | _, _ => none
/-- A call to which rows are given up: what comes back may lead into them. -/
def resCallF (P : Program) (C : FuncId → Option Ct) (h : Nat → Option Blk) (dst : Option Nat) (f : FuncId) (vals : List AV) : Option Res :=
  match AV.names.namesL vals with
  | [] => none
  | n :: ns => bif rowsOnly h (n :: ns) then
      match resCall P C (fun m => findU (killU (n :: ns)) m (h m)) dst f (frzB.frzBL h vals) with
      | some r => some ⟨r.need, r.val, r.upd ++ killU (n :: ns)⟩
      | none => none
    else none
def resCall2 (P : Program) (C : FuncId → Option Ct) (h : Nat → Option Blk) (dst : Option Nat) (f : FuncId) (vals : List AV) : Option Res :=
  match resCall P C h dst f vals with
  | some r => some r
  | none => resCallF P C h dst f vals
/-- An element, some of its cells set anew. -/
def putC (t : Ty) (y : t.den) (off : Nat) (us : List AV) : t.den :=
  match decT t (splice (enc t y) off us) with
  | some z => z
  | none => y
def setC (t : Ty) (xs : List t.den) (i off : Nat) (us : List AV) : List t.den := xs.set i (putC t (xs.getD i t.zero) off us)
def resStore (P : Program) (h : Nat → Option Blk) (t : TypeId) (x v : AV) : Option Res :=
  match x, cellsOf v, sizeOfT P t with
  | .ptr nm off, some us, some n => match h nm with
    | some (.box cs) => bif Nat.beq us.length n && Nat.ble (off + n) cs.length && us.all AV.one then some ⟨.tt, .undef, [(nm, .box (splice cs off us))]⟩ else none
    | _ => none
  | .elt sz nm i off, some us, some n => match h nm with
    | some (.row t xs) => bif Nat.beq sz t.size && (Nat.beq us.length n && (Nat.ble (off + n) sz && us.all AV.one)) then
        match decT t (splice (enc t (xs.getD i t.zero)) off us) with
        | some y => bif Nat.beq us.length t.size then some ⟨.p (i < xs.length), .undef, [(nm, .row t (xs.set i y))]⟩ else some ⟨.p (i < xs.length), .undef, [(nm, .row t (setC t xs i off us))]⟩
        | none => none
      else none
    | _ => none
  | _, _, _ => none
/-- A slice literal, every element written out in order. -/
def resBuildSlice0 (P : Program) (h : Nat → Option Blk) (dst : Option Nat) (t : TypeId) (len : Nat) (idx : List Nat) (vs : List AV) : Option Res :=
  match P.underlying t, dst with
  | some (.slice e), some d => match h d, tyOf P 8 e, sizeOfT P e, zeroOf P e with
    | none, some ty, some n, some _ => match decRow ty vs with
      | some xs => bif Nat.beq n ty.size && (Nat.ble (len * n) 16777216 && (Nat.beq idx.length len && (isRange 0 idx && Nat.beq vs.length len))) then some ⟨.tt, .row d, [(d, .row ty xs)]⟩ else none
      | none => none
    | _, _, _, _ => none
  | _, _ => none
/-- The same, rows of one's own among the elements' cells given up. -/
def resBuildSlice (P : Program) (h : Nat → Option Blk) (dst : Option Nat) (t : TypeId) (len : Nat) (idx : List Nat) (vs : List AV) : Option Res :=
  match AV.names.namesL vs with
  | [] => resBuildSlice0 P h dst t len idx vs
  | n :: ns => bif rowsOnly h (n :: ns) then match resBuildSlice0 P h dst t len idx (frzB.frzBL h vs) with
    | some r => some ⟨r.need, r.val, r.upd ++ killU (n :: ns)⟩
    | none => none
    else none
/-- What is appended: elements of a type. -/
def srcRow (h : Nat → Option Blk) (ty : Ty) (v : AV) : Option (List ty.den) :=
  match v with
  | .row nm => match h nm with
    | some (.row t xs) => if he : t = ty then some (castT he xs) else none
    | _ => none
  | .view t xs => if he : t = ty then some (castT he xs) else none
  | .part sz nm off n => match h nm with
    | some (.row t xs) => if he : t = ty then (bif Nat.beq sz ty.size then some ((castT he xs).drop off |>.take n) else none) else none
    | _ => none
  | .nilS => some []
  | .empS => some []
  | _ => none
def fitsApp (P : Program) (e : TypeId) (ty : Ty) : Bool :=
  match P.info? e with
  | some i => Nat.beq i.size ty.size && (Nat.ble i.bytes 8388608 && (match i.zero with
    | some z => Nat.beq z.cells.size ty.size
    | none => false))
  | none => false
def resAppend (P : Program) (h : Nat → Option Blk) (dst : Option Nat) (ts : List TypeId) (x y : AV) : Option Res :=
  match ts, dst with
  | [t, t'], some d =>
    bif Nat.beq t t' then
      match P.underlying t, h d with
      | some (.slice e), none =>
        match x with
        | .row nm => match h nm with
          | some (.row ty xs) => match srcRow h ty y with
            | some ys => bif fitsApp P e ty && !(Nat.beq nm d) then some ⟨.p (xs.length + ys.length ≤ 16777216), .row d, [(d, .row ty (xs ++ ys)), (nm, .dead)]⟩ else none
            | none => none
          | _ => none
        | .nilS => match tyOf P 8 e with
          | some ty => match srcRow h ty y with
            | some ys => bif fitsApp P e ty then some ⟨.p (ys.length ≤ 16777216), .row d, [(d, .row ty ys)]⟩ else none
            | none => none
          | none => none
        | .empS => match tyOf P 8 e with
          | some ty => match srcRow h ty y with
            | some ys => bif fitsApp P e ty then some ⟨.p (ys.length ≤ 16777216), .row d, [(d, .row ty ys)]⟩ else none
            | none => none
          | none => none
        | _ => none
      | _, _ => none
    else none
  | _, _ => none
/-- A new row of zero values. -/
def resMake (P : Program) (h : Nat → Option Blk) (dst : Option Nat) (t : TypeId) (l c : AV) : Option Res :=
  match P.underlying t, dst, l, c with
  | some (.slice e), some d, .int _ z, .int _ z' => match h d, tyOf P 8 e, zeroOf P e with
    | none, some ty, some cs => match decT ty cs with
      | some y => bif fitsApp P e ty then some ⟨.p (0 ≤ z ∧ z ≤ z' ∧ z' ≤ 16777216), .row d, [(d, .row ty (List.replicate z.toNat y))]⟩ else none
      | none => none
    | _, _, _ => none
  | _, _, _, _ => none
def resNew (h : Nat → Option Blk) (dst : Option Nat) (cs : List AV) : Option Res :=
  match dst with
  | some d => match h d with
    | none => some ⟨.tt, .ptr d 0, [(d, .box cs)]⟩
    | some _ => none
  | none => none
def fresh1 (dst : Option Nat) : List Nat :=
  match dst with
  | some d => [d]
  | none => []
/-- Elements from a place on set to zero. -/
def clearL {α : Type} (xs : List α) (off n : Nat) (y : α) : List α := xs.take off ++ List.replicate n y ++ xs.drop (off + n)
def resClear (P : Program) (h : Nat → Option Blk) (ts : List TypeId) (x : AV) : Option Res :=
  match ts, x with
  | [t], .part sz nm off n => match P.underlying t, h nm with
    | some (.slice e), some (.row ty xs) => match zeroOf P e with
      | some cs => match decT ty cs with
        | some y => bif Nat.beq sz ty.size && (Nat.beq cs.length ty.size && cs.all AV.one) then some ⟨.p (off + n ≤ xs.length ∧ 0 < xs.length), .tup [], [(nm, .row ty (clearL xs off n y))]⟩ else none
        | none => none
      | none => none
    | _, _ => none
  | _, _ => none
/-- Bytes as a string. -/
def toU8 (xs : List Int) : List UInt8 := xs.map fun z => UInt8.ofNat z.toNat
def resConvB (P : Program) (h : Nat → Option Blk) (src dst : TypeId) (x : AV) : PR :=
  match P.underlying src, P.underlying dst with
  | some (.slice e), some .string => match P.underlying e, srcRow h (.int .u8) x with
    | some (.int .u8), some xs => some (.tt, .str (toU8 xs))
    | _, _ => none
  | _, _ => none
/-- A part of an own row among the cells of a struct: the row is cut to it, under a new name. -/
def firstPart : List AV → Option (Nat × Nat × Nat × Nat)
  | [] => none
  | .part sz nm off n :: _ => some (sz, nm, off, n)
  | _ :: vs => firstPart vs
def isPart : AV → Bool
  | .part _ _ _ _ => true
  | _ => false
def asRow (d : Nat) : AV → AV
  | .part _ _ _ _ => .row d
  | x => x
def resBuildR (P : Program) (h : Nat → Option Blk) (dst : Option Nat) (t : TypeId) (ks : List Nat) (vals : List AV) : Option Res :=
  match dst, firstPart vals with
  | some d, some (sz, nm, off, n) => match h nm, h d with
    | some (.row tt xs), none => bif Nat.beq sz tt.size && Nat.beq (vals.filter isPart).length 1 then
        match resBuild P t (ks.zip (vals.map (asRow d))) with
        | some (_, v) => some ⟨.p (1 ≤ n), v, [(d, .row tt ((xs.drop off).take n)), (nm, .dead)]⟩
        | none => none
      else none
    | _, _ => none
  | _, _ => none
/-- Rows of rows are looked into by calls alone. -/
def hideD (h : Nat → Option Blk) : Nat → Option Blk := fun n => match h n with
  | some (.row t xs) => bif t.isDeep then some .dead else some (.row t xs)
  | B => B
def opRes0 (P : Program) (C : FuncId → Option Ct) (wr : Bool) (o : Oper) (vals : List AV) (h hf : Nat → Option Blk) : Option Res :=
  match o.op, vals with
  | .store t _ _, [x, v] => resStore P h t x v
  | .alloc t, _ => match zeroOf P t with
    | some cs => bif cs.any isUnk then none else resNew h o.dst cs
    | none => none
  | .box _ _, [v] => match cellsOf v with
    | some cs => bif cs.any isUnk then none else resNew h o.dst cs
    | none => none
  | .build t parts, vs => match resBuildR P h o.dst t (parts.toList.map (·.1)) vs with
    | some r => some r
    | none => PR.toRes (resBuild P t ((parts.toList.map (·.1)).zip vs))
  | .call { callee := .value (.func f), args := _, argTypes := _ }, vs => resCall2 P C hf o.dst f vs.tail
  | .call { callee := .value (.tmp _), args := _, argTypes := _ }, .clo f cs :: vs => resCall P C hf o.dst f (vs ++ cs)
  | .call { callee := .value (.tmp _), args := _, argTypes := _ }, .fn f :: vs => resCall P C hf o.dst f vs
  | .makeSlice t _ _, [l, c] => resMake P h o.dst t l c
  | .buildSlice t n parts, vs => resBuildSlice P h o.dst t n (parts.toList.map (·.1)) vs
  | .call { callee := .builtin .append, args := _, argTypes := ts }, [x, y] => resAppend P h o.dst ts.toList x y
  | .call { callee := .builtin .clear, args := _, argTypes := ts }, [x] => resClear P h ts.toList x
  | .convert s d y, [x] => match resConvB P h s d x with
    | some r => PR.toRes (some r)
    | none => PR.toRes (resPure P wr h (.convert s d y) [x])
  | op, vs => PR.toRes (resPure P wr h op vs)
/-! ### rows of rows that are made -/
/-- The cells of an element whose rows are its own. -/
def decDQ (h : Nat → Option Blk) (t : Ty) : List AV → Option (List t.den)
  | [.nilS] => some []
  | [.row nm] => match h nm with
    | some (.row t' xs) => if e : t' = t then some (castT e xs) else none
    | _ => none
  | _ => none
def decD (h : Nat → Option Blk) : (t : Ty) → List AV → Option t.den
  | .int k, l => decI k l
  | .bool, l => decB l
  | .str, l => decS l
  | .seq t, l => bif t.flat then decDQ h t l else none
  | .deep _, _ => none
  | .pair a b, l => match decD h a (l.take a.size), decD h b (l.drop a.size) with
    | some x, some y => some (x, y)
    | _, _ => none
def decDRow (h : Nat → Option Blk) (t : Ty) : List AV → Option (List t.den)
  | [] => some []
  | v :: vs => match (cellsOf v).bind (decD h t), decDRow h t vs with
    | some x, some xs => some (x :: xs)
    | _, _ => none
def cellsL : List AV → List AV
  | [] => []
  | v :: vs => (match cellsOf v with | some us => us | none => []) ++ cellsL vs
/-- No name, or one other than this. -/
def oneName (d : Nat) : List Nat → Bool
  | [] => true
  | [m] => !(Nat.beq m d)
  | _ => false
def resMakeD (P : Program) (h : Nat → Option Blk) (dst : Option Nat) (t : TypeId) (l c : AV) : Option Res :=
  match P.underlying t, dst, l, c with
  | some (.slice e), some d, .int _ z, .int _ z' => match h d, tyOf P 8 e, zeroOf P e with
    | none, some ty, some cs => match decD h ty cs with
      | some y => bif fitsApp P e ty && (!ty.flat && (AV.names.namesL cs).isEmpty) then some ⟨.p (0 ≤ z ∧ z ≤ z' ∧ z' ≤ 16777216), .row d, [(d, .row (.deep ty) (List.replicate z.toNat y))]⟩ else none
      | none => none
    | _, _, _ => none
  | _, _, _, _ => none
def resBuildSliceD (P : Program) (h : Nat → Option Blk) (dst : Option Nat) (t : TypeId) (len : Nat) (idx : List Nat) (vs : List AV) : Option Res :=
  match P.underlying t, dst with
  | some (.slice e), some d => match h d, tyOf P 8 e, sizeOfT P e, zeroOf P e with
    | none, some ty, some n, some _ => match decDRow h ty vs with
      | some xs => bif (!ty.flat && (ty.dOk && (oneName d (AV.names.namesL vs) && rowsOnly h (AV.names.namesL vs)))) && (Nat.beq n ty.size && (Nat.ble (len * n) 16777216 && (Nat.beq idx.length len && (isRange 0 idx && Nat.beq vs.length len)))) then
          some ⟨.tt, .row d, (d, .row (.deep ty) xs) :: killU (AV.names.namesL vs)⟩ else none
      | none => none
    | _, _, _, _ => none
  | _, _ => none
def resStoreD0 (P : Program) (h : Nat → Option Blk) (t : TypeId) (x v : AV) : Option Res :=
  match x, cellsOf v, sizeOfT P t with
  | .elt sz nm i off, some us, some n => match h nm with
    | some (.row (.deep ty) xs) => bif Nat.beq off 0 && (Nat.beq n ty.size && (Nat.beq us.length ty.size && (Nat.beq sz ty.size && (!(Nat.beq nm 700000) && (oneName nm (AV.names.namesL us) && rowsOnly h (AV.names.namesL us)))))) then
        match decD h ty us with
        | some y => some ⟨.p (i < xs.length), .undef, (nm, .row (.deep ty) (xs.set i y)) :: killU (AV.names.namesL us)⟩
        | none => none
      else none
    | _ => none
  | _, _, _ => none
def flat1 : AV → Bool
  | .int _ _ => true
  | .bool _ => true
  | .lit _ => true
  | .str _ => true
  | _ => false
/-- A cell of an element, not a row, set anew. -/
def resStoreD1 (P : Program) (h : Nat → Option Blk) (t : TypeId) (x v : AV) : Option Res :=
  match x, sizeOfT P t with
  | .elt sz nm i off, some n => match h nm with
    | some (.row (.deep ty) xs) => bif Nat.beq sz ty.size && (Nat.beq n 1 && (Nat.ble (off + 1) ty.size && flat1 v)) then
        match decT ty (splice (enc ty (xs.getD i ty.zero)) off [v]) with
        | some _ => some ⟨.p (i < xs.length), .undef, [(nm, .row (.deep ty) (setC ty xs i off [v]))]⟩
        | none => none
      else none
    | _ => none
  | _, _ => none
def sp1 {α : Type} (l : List α) (off : Nat) (u : α) : List α := l.take off ++ [u] ++ l.drop (off + 1)
/-- The row that was taken out of an element comes back. -/
def resStoreH (P : Program) (h : Nat → Option Blk) (t : TypeId) (x v : AV) : Option Res :=
  match x, v, sizeOfT P t with
  | .elt sz nm i off, .row m, some n => match h nm, h m with
    | some (.hole ty e xs i0 off0 _), some (.row e' l) => if he : e' = e then
        bif Nat.beq sz ty.size && (Nat.beq n 1 && (Nat.beq off off0 && (!(Nat.beq nm m) && !(Nat.beq nm 700000)))) then
          match decT ty (sp1 (enc ty (xs.getD i0 ty.zero)) off0 (.view e (castT he l))) with
          | some y => some ⟨.p (i = i0), .undef, [(nm, .row (.deep ty) (xs.set i0 y)), (m, .dead)]⟩
          | none => none
        else none
      else none
    | _, _ => none
  | _, _, _ => none
def resStoreD (P : Program) (h : Nat → Option Blk) (t : TypeId) (x v : AV) : Option Res :=
  match resStoreD1 P h t x v with
  | some r => some r
  | none => match resStoreH P h t x v with
    | some r => some r
    | none => resStoreD0 P h t x v
def resLenD (P : Program) (h : Nat → Option Blk) (t : TypeId) (x : AV) : PR :=
  match P.underlying t, x with
  | some (.slice _), .row nm => match h nm with
    | some (.row (.deep _) xs) => some (.tt, .int .i64 (xs.length : Int))
    | _ => none
  | _, _ => none
def resAppendD (P : Program) (h : Nat → Option Blk) (dst : Option Nat) (ts : List TypeId) (x y : AV) : Option Res :=
  match ts, dst, x, y with
  | [t, t'], some d, .row nm, .row nm2 => match P.underlying t, h d, h nm, h nm2 with
    | some (.slice e), none, some (.row (.deep ty) xs), some (.row (.deep ty2) ys) => if he : ty2 = ty then
        bif Nat.beq t t' && (fitsApp P e ty && (!(Nat.beq nm d) && (!(Nat.beq nm2 d) && !(Nat.beq nm nm2)))) then some ⟨.p (xs.length + ys.length ≤ 16777216), .row d, (d, .row (.deep ty) (xs ++ castT he ys)) :: killU [nm, nm2]⟩ else none
      else none
    | _, _, _, _ => none
  | _, _, _, _ => none
/-- An element's place in a row of rows. -/
def resIndexD (P : Program) (h : Nat → Option Blk) (t : TypeId) (x i : AV) : PR :=
  match elemSize P t, x, i with
  | some n, .row nm, .int _ z => match h nm with
    | some (.row (.deep ty) xs) => bif Nat.beq n ty.size then some (.p (0 ≤ z ∧ z < (xs.length : Int)), .elt ty.size nm z.toNat 0) else none
    | some (.hole ty _ xs _ _ _) => bif Nat.beq n ty.size then some (.p (0 ≤ z ∧ z < (xs.length : Int)), .elt ty.size nm z.toNat 0) else none
    | _ => none
  | _, _, _ => none
/-- How many rows an element has. -/
def nIn : Ty → Nat
  | .pair a b => nIn a + nIn b
  | .seq _ => 1
  | .deep t => nIn t
  | _ => 0
/-- The row in an element of a row of rows that is lent. -/
def resLoadD (P : Program) (h : Nat → Option Blk) (t : TypeId) (x : AV) : PR :=
  match aggOf P t, x with
  | some (false, _), .elt sz nm i off => bif Nat.beq nm 700000 then match h nm with
      | some (.row (.deep ty) xs) => bif Nat.beq sz ty.size && Nat.beq (nIn ty) 1 then
          match (enc ty (xs.getD i ty.zero))[off]? with
          | some (.view _ _) => some (.p (i < xs.length), .inr i off)
          | _ => none
        else none
      | _ => none
    else none
  | _, _ => none
/-- The row in an element of a row of rows of one's own gets a name; the element has a hole until it comes back. -/
def resLoadO (P : Program) (h : Nat → Option Blk) (dst : Option Nat) (t : TypeId) (x : AV) : Option Res :=
  match aggOf P t, x, dst with
  | some (false, _), .elt sz nm i off, some d => match h nm, h d with
    | some (.row (.deep ty) xs), none => bif Nat.beq sz ty.size && (Nat.beq (nIn ty) 1 && (!(Nat.beq nm 700000) && !(Nat.beq nm d))) then
        match (enc ty (xs.getD i ty.zero))[off]? with
        | some (.view e l) => some ⟨.p (i < xs.length), .row d, [(d, .row e l), (nm, .hole ty e xs i off d)]⟩
        | _ => none
      else none
    | _, _ => none
  | _, _, _ => none
def flat1A : AV → Bool
  | .agg cs => cs.all flat1
  | x => flat1 x
/-- Cells of an element that are no rows. -/
def resLoadF (P : Program) (h : Nat → Option Blk) (t : TypeId) (x : AV) : PR :=
  match x with
  | .elt sz nm i off => match h nm with
    | some (.row (.deep ty) xs) => bif Nat.beq sz ty.size then
        match partOf P t (enc ty (xs.getD i ty.zero)) off with
        | some v => bif flat1A v then some (.p (i < xs.length), v) else none
        | none => none
      else none
    | _ => none
  | _ => none
def resLoadX (P : Program) (h : Nat → Option Blk) (dst : Option Nat) (t : TypeId) (x : AV) : Option Res :=
  match resLoadD P h t x with
  | some (p, v) => some ⟨p, v, []⟩
  | none => match resLoadF P h t x with
    | some (p, v) => some ⟨p, v, []⟩
    | none => resLoadO P h dst t x
def andNd (q : Prop) : Nd → Nd
  | .tt => .p q
  | .p r => .p (q ∧ r)
/-- The row in an element is lent to one that writes into it. -/
def resCallI (P : Program) (C : FuncId → Option Ct) (h : Nat → Option Blk) (f : FuncId) (vals : List AV) : Option Res :=
  match vals, C f, enterable P f with
  | .inr i off :: rest, some (.wt ct), true => match h 700000 with
    | some (.row (.deep ty) xs) => match (enc ty (xs.getD i ty.zero))[off]? with
      | some (.view e l) => match ct (.own e l :: rest.map (asOwn h)) with
        | some (p, v, ⟨e', l'⟩) => if he : e' = e then
            match decT ty (sp1 (enc ty (xs.getD i ty.zero)) off (.view e (castT he l'))) with
            | some _ => bif plain v && ((AV.names.namesL rest).isEmpty && Nat.beq (nIn ty) 1) then some ⟨andNd (i < xs.length) p, v, [(700000, .row (.deep ty) (setC ty xs i off [.view e (castT he l')]))]⟩ else none
            | none => none
          else none
        | none => none
      | _ => none
    | _ => none
  | _, _, _ => none
/-- Whether rows of rows are made here: a mark among the contracts. -/
def deepM (C : FuncId → Option Ct) : Bool := (C 900000000).isSome
def opDeep (P : Program) (C : FuncId → Option Ct) (o : Oper) (vals : List AV) (h : Nat → Option Blk) : Option Res :=
  match o.op, vals with
  | .load t _, [x] => resLoadX P h o.dst t x
  | .call { callee := .value (.func f), args := _, argTypes := _ }, vs => resCallI P C h f vs.tail
  | .store t _ _, [x, v] => resStoreD P h t x v
  | .makeSlice t _ _, [l, c] => resMakeD P h o.dst t l c
  | .buildSlice t n parts, vs => resBuildSliceD P h o.dst t n (parts.toList.map (·.1)) vs
  | .call { callee := .builtin .append, args := _, argTypes := ts }, [x, y] => resAppendD P h o.dst ts.toList x y
  | .indexAddr t _ _, [x, i] => PR.toRes (resIndexD P h t x i)
  | .call { callee := .builtin .len, args := _, argTypes := ts }, [x] => match ts[0]? with
    | some t => PR.toRes (resLenD P h t x)
    | none => none
  | _, _ => none
def restrict (h : Nat → Option Blk) (ns : List Nat) : Nat → Option Blk := fun n => bif ns.any (Nat.beq n) then h n else none
/-- The names within the boxes that these names stand for. -/
def deep (h : Nat → Option Blk) : List Nat → List Nat
  | [] => []
  | n :: ns => match h n with
    | some (.box cs) => AV.names.namesL cs ++ deep h ns
    | some (.hole _ _ _ _ _ d) => d :: deep h ns
    | _ => deep h ns
/-- A value is but handed on. -/
def isMove : Op → Bool
  | .move _ => true
  | _ => false
def look (o : Oper) (vals : List AV) (h : Nat → Option Blk) : List Nat := bif isMove o.op then fresh1 o.dst else AV.names.namesL vals ++ (deep h (AV.names.namesL vals) ++ fresh1 o.dst)
def opRes1 (P : Program) (C : FuncId → Option Ct) (wr : Bool) (o : Oper) (vals : List AV) (h : Nat → Option Blk) : Option Res :=
  match (bif deepM C then opDeep P C o vals (restrict h (look o vals h)) else none) with
  | some r => some r
  | none => opRes0 P C wr o vals (hideD (restrict h (look o vals h))) (restrict h (look o vals h))

/-- A hole whose row has a name as yet is closed: the row, and the name that dies. -/
def closeOf (h : Nat → Option Blk) (nm : Nat) : Option (Blk × Nat) :=
  match h nm with
  | some (.hole t e xs i off d) => match h d with
    | some (.row e' l) => if he : e' = e then
        match decT t (sp1 (enc t (xs.getD i t.zero)) off (.view e (castT he l))) with
        | some y => bif !(Nat.beq d nm) && !(Nat.beq nm 700000) then some (.row (.deep t) (xs.set i y), d) else none
        | none => none
      else none
    | _ => none
  | _ => none
def closeN (h : Nat → Option Blk) : List Nat → Option (Nat × Blk × Nat)
  | [] => none
  | n :: ns => match closeOf h n with
    | some (B, d) => some (n, B, d)
    | none => closeN h ns
def opRes (P : Program) (C : FuncId → Option Ct) (wr : Bool) (o : Oper) (vals : List AV) (h : Nat → Option Blk) : Option Res :=
  match (bif deepM C && !(isMove o.op) then closeN h (AV.names.namesL vals) else none) with
  | some (n, B, d) => match opRes1 P C wr o vals (fun m => findU [(n, B), (d, .dead)] m (h m)) with
    | some r => some ⟨r.need, r.val, r.upd ++ [(n, B), (d, .dead)]⟩
    | none => none
  | none => opRes1 P C wr o vals h

def opVal (env : Nat → AV) : Operand → AV
  | .tmp t => env t
  | .const v => ofValue v
  | .global _ => .unk
  | .func f => .fn f
def opVals (env : Nat → AV) (o : Oper) : List AV := o.op.operands.toList.map (opVal env)

structure St where
  nt : Nat
  env : Nat → AV
  heap : Nat → Option Blk
def putEnv (env : Nat → AV) (dst : Option Nat) (v : AV) : Nat → AV :=
  match dst with
  | some d => fun k => bif Nat.beq k d then v else env k
  | none => env
def St.apply (σ : St) (dst : Option Nat) (v : AV) (upd : List (Nat × Blk)) : St :=
  { nt := σ.nt, env := putEnv σ.env dst v, heap := match upd with
    | [] => σ.heap
    | u :: us => fun n => findU (u :: us) n (σ.heap n) }
def dstOk (σ : St) : Option Nat → Bool
  | some d => Nat.blt d σ.nt
  | none => true
end Sx
end Go.Proofs.Ytemlpimibhijoaa
