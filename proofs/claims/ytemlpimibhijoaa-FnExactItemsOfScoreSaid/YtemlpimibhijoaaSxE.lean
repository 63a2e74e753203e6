/- The evaluator is sound: each operation, over the whole state. Conditions: as each says. -/
import Derived.Test.YtemlpimibhijoaaSxD
import Derived.Laws.Cover3
set_option linter.unusedSimpArgs false
set_option linter.unusedVariables false
namespace Go.Proofs.Ytemlpimibhijoaa
open Go.RowKit
namespace Sx
section
variable {P : Program} {base : Base} {w0 w w' : World} {σ : St} {a : Act} {ref : Nat → Value} {c c' : Cx}
theorem mm_sound {mx : Bool} {x y v : AV} {p : Nd} {u u' : Value} (h : resMM mx x y = some (p, v)) (hx : Den c x u) (hy : Den c y u') :
    ∃ k n m, u = .int k n ∧ u' = .int k m ∧ v = .int k (bif mx then max n m else min n m) := by
  unfold resMM at h
  split at h
  · rename_i k n k' m
    by_cases hk : k = k'
    · subst hk
      simp only [decide_true, cond_true, Option.some.injEq, Prod.mk.injEq] at h
      exact ⟨k, n, m, hx, hy, h.2.symm⟩
    · simp [hk] at h
  · simp at h
theorem nilEq_sound {h : Nat → Option Blk} {op : BinOp} {t : TypeId} {x y v : AV} {p : Nd} {u u' : Value} {ox oy : Operand} (hh : HeapP c base h) (hr : resNilEq P h op t x y = some (p, v)) (hx : Den c x u) (hy : Den c y u') :
    ∃ r, ((do eqGuard op t ox oy u u'; Go.binOp op t u u' : Sem Value)).run P w = .ok r w ∧ Den c v r := by
  unfold resNilEq at hr
  split at hr
  · rename_i e hu
    have hy : u' = .slice none 0 0 := hy
    subst hy
    have run : ∀ (a : Option Addr) (n cap : Nat), ((do eqGuard .eql t ox oy (.slice a n cap) (.slice none 0 0); Go.binOp .eql t (.slice a n cap) (.slice none 0 0) : Sem Value)).run P w = .ok (.bool a.isNone) w := fun a n cap => by
      simp [eqGuard, Go.binOp, run_equal_slice_nil w t e a n cap hu]
    split at hr
    · rename_i t' xs
      simp only [Option.some.injEq, Prod.mk.injEq] at hr
      obtain ⟨rfl, rfl⟩ := hr
      obtain ⟨ad, cap, hv, _, hel⟩ := hx
      simp only [List.cons.injEq, and_true] at hv
      subst hv
      refine ⟨_, run _ _ _, ad.isNone, rfl, fun hn => ?_⟩
      rcases hel with hnil | ⟨b, o, rfl, _⟩
      · exact hnil
      · simp at hn
    · simp only [Option.some.injEq, Prod.mk.injEq] at hr
      obtain ⟨rfl, rfl⟩ := hr
      have hx : u = .slice none 0 0 := hx
      subst hx
      exact ⟨_, run _ _ _, rfl⟩
    · rename_i nm
      split at hr
      · rename_i t' xs hnm
        simp only [Option.some.injEq, Prod.mk.injEq] at hr
        obtain ⟨rfl, rfl⟩ := hr
        obtain ⟨_, rfl, _⟩ := hx
        rcases (hh.blk _ _ hnm).hd (hh.plain _ _ _ hnm) with ⟨⟨ad, hv⟩, rfl⟩ | ⟨b', cap', vs, rest, ty, pre, hv, _⟩
        · rw [hv]; exact ⟨_, run _ _ _, ad.isNone, rfl, fun _ => rfl⟩
        · rw [hv]; exact ⟨_, run _ _ _, false, rfl, fun h => by simp at h⟩
      · simp at hr
    · simp at hr
  · simp at hr
theorem pure_sound {wr : Bool} {h : Nat → Option Blk} {env : Nat → AV} {o : Oper} {v : AV} {p : Nd} (hh : HeapP c base h) (hop : ∀ x, Den c (opVal env x) (a.eval x)) (hw : c.w = w)
    (hr : resPure P wr h o.op (opVals env o) = some (p, v)) (hp : p.ok) : ∃ r, (execOp a.eval o).run P w = .ok (.value r) w ∧ Den c v r := by
  obtain ⟨dst, op, type, pos, after, guard⟩ := o
  have e1 : ∀ x : Operand, (#[x] : Array Operand).toList = [x] := fun _ => rfl
  have e2 : ∀ x y : Operand, (#[x, y] : Array Operand).toList = [x, y] := fun _ _ => rfl
  have e3 : ∀ x y z : Operand, (#[x, y, z] : Array Operand).toList = [x, y, z] := fun _ _ _ => rfl
  cases op <;> simp only [opVals, Op.operands, e1, e2, e3, List.map_cons, List.map_nil] at hr
  case move x =>
    simp only [resPure, Option.some.injEq, Prod.mk.injEq] at hr
    obtain ⟨rfl, rfl⟩ := hr
    exact ⟨a.eval x, by simp [execOp], hop x⟩
  case assign x =>
    simp only [resPure, Option.some.injEq, Prod.mk.injEq] at hr
    obtain ⟨rfl, rfl⟩ := hr
    exact ⟨a.eval x, by simp [execOp], hop x⟩
  case pick x y z =>
    obtain ⟨b, hb, hd⟩ := pick_sound hr (hop x) (hop y) (hop z)
    exact ⟨if b then a.eval y else a.eval z, by simp [execOp, hb, asBool], hd⟩
  case binOp op t x y ty =>
    simp only [resPure] at hr
    split at hr
    · rename_i r hn
      simp only [Option.some.injEq] at hr
      subst hr
      obtain ⟨r, hr, hd⟩ := nilEq_sound (w := w) (ox := x) (oy := y) hh hn (hop x) (hop y)
      exact ⟨r, by simp only [execOp]; rw [Sem.run_bind, hr]; rfl, hd⟩
    obtain ⟨r, hr, hd⟩ := binOp_sound (P := P) (w := w) (t := t) (ox := x) (oy := y) hr hp (hop x) (hop y)
    refine ⟨r, ?_, hd⟩
    simp only [execOp]
    rw [Sem.run_bind, hr]
    rfl
  case unOp op t x =>
    obtain ⟨r, hr, hd⟩ := un_sound (P := P) (w := w) hr hp (hop x)
    exact ⟨r, by simp [execOp, hr], hd⟩
  case convert s d x =>
    obtain ⟨r, hr, hd⟩ := conv_sound (w := w) hr hp (hop x)
    exact ⟨r, by simp [execOp, hr], hd⟩
  case field s x f =>
    obtain ⟨r, hr, hd⟩ := field_sound (w := w) hr (hop x)
    exact ⟨r, by simp [execOp, hr], hd⟩
  case extract x i =>
    obtain ⟨r, hr, hd⟩ := extract_sound (P := P) (w := w) hr (hop x)
    exact ⟨r, by simp [execOp, hr], hd⟩
  case fieldAddr s x f =>
    obtain ⟨r, hr, hd⟩ := fieldAddr_sound (w := w) hr (hop x)
    exact ⟨r, by simp [execOp, hr], hd⟩
  case indexAddr t x i =>
    obtain ⟨r, hr, hd⟩ := indexAddr_sound (w := w) hh hr hp (hop x) (hop i)
    exact ⟨r, by simp [execOp, hr], hd⟩
  case index t x i =>
    obtain ⟨r, hr, hd⟩ := index_sound (w := w) hr hp (hop x) (hop i)
    exact ⟨r, by simp [execOp, hr], hd⟩
  case load t x =>
    obtain ⟨r, hr, hd⟩ := load_sound (w := w) hw hh hr hp (hop x)
    exact ⟨r, by simp [execOp, hr], hd⟩
  case nilCheck x =>
    have hx := hop x
    simp only [resPure] at hr
    generalize opVal env x = y at hr hx
    cases y <;> simp only [resNil, reduceCtorEq, Option.some.injEq, Prod.mk.injEq] at hr
    case ptr nm off =>
      obtain ⟨rfl, rfl⟩ := hr
      have hx' := hx
      obtain ⟨_, b, _, hv⟩ := hx'
      exact ⟨a.eval x, by simp [execOp, hv], hx⟩
    case elt sz nm i off =>
      obtain ⟨rfl, rfl⟩ := hr
      have hx' := hx
      obtain ⟨_, b, _, _, _, hv⟩ := hx'
      exact ⟨a.eval x, by simp [execOp, hv], hx⟩
    case velt t y off =>
      obtain ⟨rfl, rfl⟩ := hr
      have hx' := hx
      obtain ⟨b, o, us, hv, _⟩ := hx'
      exact ⟨a.eval x, by simp [execOp, hv], hx⟩
  case slice t x l hi m =>
    have e : ((#[x] ++ l.toArray ++ hi.toArray ++ m.toArray).toList.map (opVal env)) = opVal env x :: (l.toList ++ hi.toList ++ m.toList).map (opVal env) := by
      simp
    rw [e] at hr
    obtain ⟨r, hr', hd⟩ := slice_sound (w := w) hh hop hr hp (hop x)
    exact ⟨r, by simp [execOp, sliceAt_of (w := w) hr, hr'], hd⟩
  case makeFunc fn first captured =>
    rcases first with ⟨_ | ⟨y, l⟩⟩
    · cases fn <;> first | (simp [resPure] at hr; done) | skip
      rename_i f
      have e : ((#[] : Array Operand) ++ captured).toList = captured.toList := by simp
      rw [e] at hr
      replace hr : some (Nd.tt, AV.clo f (captured.toList.map (opVal env))) = some (p, v) := hr
      simp only [Option.some.injEq, Prod.mk.injEq] at hr
      obtain ⟨rfl, rfl⟩ := hr
      refine ⟨.func (.func f) #[] (captured.map a.eval), by simp [execOp, Instr.makeFunc], captured.toList.map a.eval, by congr 1; apply Array.ext'; simp, ?_⟩
      have : ∀ l : List Operand, DenL c (l.map (opVal env)) (l.map a.eval) := by
        intro l
        induction l with
        | nil => rfl
        | cons y l ih => exact ⟨_, _, rfl, hop y, ih⟩
      exact this captured.toList
    · cases fn <;> simp [resPure] at hr
  case call cl =>
    obtain ⟨callee, args, ts⟩ := cl
    cases callee with
    | value f => simp [resPure] at hr
    | invoke r m => simp [resPure] at hr
    | builtin b =>
      simp only [Call.operands] at hr
      cases b <;> try (simp [resPure] at hr; done)
      case len =>
        rcases args with ⟨_ | ⟨x, _ | ⟨y, l⟩⟩⟩ <;> simp [resPure] at hr
        split at hr
        · rename_i t ht
          obtain ⟨r, hr, hd⟩ := len_sound (w := w) (ty := type) hh ht hr (hop x)
          exact ⟨r, by simp [execOp, resolve, invoke, builtin, hr], hd⟩
        · simp at hr
      case max =>
        rcases args with ⟨_ | ⟨x, _ | ⟨y, _ | ⟨z, l⟩⟩⟩⟩ <;> simp [resPure] at hr
        obtain ⟨k, n, m, h1, h2, rfl⟩ := mm_sound hr (hop x) (hop y)
        exact ⟨.int k (max n m), by simp [execOp, resolve, invoke, builtin, h1, h2, Builtin.max_, Builtin.max2]; omega, rfl⟩
      case min =>
        rcases args with ⟨_ | ⟨x, _ | ⟨y, _ | ⟨z, l⟩⟩⟩⟩ <;> simp [resPure] at hr
        obtain ⟨k, n, m, h1, h2, rfl⟩ := mm_sound hr (hop x) (hop y)
        exact ⟨.int k (min n m), by simp [execOp, resolve, invoke, builtin, h1, h2, Builtin.min_, Builtin.min2]; omega, rfl⟩
  all_goals (simp [resPure] at hr)

/-! ### the state steps on -/
theorem cell_of_block {b o : Nat} (h : w'.heap[b]? = w.heap[b]?) : w'.cell? ⟨b, o, none⟩ = w.cell? ⟨b, o, none⟩ := by
  simp only [World.cell?, h]
theorem RowAt.mono {ok ok' : Nat → Prop} (hok : ∀ b, ok b → ok' b) (hc : ∀ b o, ok b → w'.cell? ⟨b, o, none⟩ = w.cell? ⟨b, o, none⟩) {t : Ty} {xs : List t.den} {vs : List Value} (h : RowAt w ok t xs vs) : RowAt w' ok' t xs vs :=
  ⟨h.1, fun i hi => by obtain ⟨us, h1, h2⟩ := h.2 i hi; exact ⟨us, h1.mono hok hc, h2⟩⟩
theorem RowOld.slice {v : Value} {t : Ty} {xs : List t.den} (h : RowOld c base v t xs) : ∃ a n cap, v = .slice a n cap := by
  rcases h with ⟨⟨a, h⟩, _⟩ | ⟨b, cap, vs, rest, ty, pre, h, _⟩ <;> exact ⟨_, _, _, h⟩
theorem owns_blk {v : Value} {b : Nat} (h : ∃ a n cap, v = .slice a n cap) : Owns v b ↔ blkOf v = some b := by
  obtain ⟨a, n, cap, rfl⟩ := h; exact Iff.rfl
theorem RowOld.mono (hle : c.le c') {v : Value} {t : Ty} {xs : List t.den} (hb : ∀ b, Owns v b → c'.w.heap[b]? = c.w.heap[b]?) (h : RowOld c base v t xs) : RowOld c' base v t xs := by
  rcases h with h | ⟨b, cap, vs, rest, ty, pre, rfl, h1, h2, h3, h4⟩
  · exact .inl h
  · exact .inr ⟨b, cap, vs, rest, ty, pre, rfl, h1, (hb b (owns_some h4.2.2)).trans h2, h3.mono hle.ok hle.cell, h4⟩
theorem RowOld.lt {v : Value} {t : Ty} {xs : List t.den} (h : RowOld c base v t xs) {b : Nat} (hb : Owns v b) : base.own b ∧ b < c.w.heap.size := by
  rcases h with ⟨⟨a, rfl⟩, _⟩ | ⟨b', cap, vs, rest, ty, pre, rfl, h1, h2, _⟩
  · exact (owns_zero hb).elim
  · have hb : b' = b := owns_slice hb
    subst hb
    refine ⟨h1, ?_⟩
    rcases Nat.lt_or_ge b' c.w.heap.size with h' | h'
    · exact h'
    · rw [Array.getElem?_eq_none h'] at h2; simp at h2
theorem DeepR.mono (hle : c.le c') : ∀ {t : Ty} {x : t.den} {vs ins : List Value}, (∀ u ∈ ins, ∀ b, blkOf u = some b → c'.w.heap[b]? = c.w.heap[b]?) → DeepR c base t x vs ins → DeepR c' base t x vs ins
  | .int _, _, _, _, _, h => h
  | .bool, _, _, _, _, h => h
  | .str, _, _, _, _, h => h
  | .pair a b, x, _, _, hb, h => by
    obtain ⟨v1, v2, i1, i2, rfl, rfl, h1, h2⟩ := h
    exact ⟨v1, v2, i1, i2, rfl, rfl, h1.mono hle fun u hu => hb u (List.mem_append.2 (.inl hu)), h2.mono hle fun u hu => hb u (List.mem_append.2 (.inr hu))⟩
  | .seq t, xs, _, _, hb, h => by
    obtain ⟨v, rfl, rfl, hf, h1⟩ := h
    exact ⟨v, rfl, rfl, hf, h1.mono hle fun b hb' => hb v (by simp) b ((owns_blk h1.slice).1 hb')⟩
  | .deep _, _, _, _, _, h => h.elim
theorem DeepAt.mono (hle : c.le c') {t : Ty} : ∀ {xs : List t.den} {vs ins : List Value}, (∀ u ∈ ins, ∀ b, blkOf u = some b → c'.w.heap[b]? = c.w.heap[b]?) → DeepAt c base t xs vs ins → DeepAt c' base t xs vs ins
  | [], _, _, _, h => h
  | x :: xs, _, _, hb, h => by
    obtain ⟨v1, v2, i1, i2, rfl, rfl, h1, h2⟩ := h
    exact ⟨v1, v2, i1, i2, rfl, rfl, h1.mono hle fun u hu => hb u (List.mem_append.2 (.inl hu)), DeepAt.mono hle (fun u hu => hb u (List.mem_append.2 (.inr hu))) h2⟩
theorem DeepR.mem : ∀ {t : Ty} {x : t.den} {vs ins : List Value}, DeepR c base t x vs ins → ∀ u ∈ ins, ∃ (e : Ty) (ys : List e.den), e.flat = true ∧ RowOld c base u e ys
  | .int _, _, _, _, h, u, hu => by rw [h.2] at hu; simp at hu
  | .bool, _, _, _, h, u, hu => by rw [h.2] at hu; simp at hu
  | .str, _, _, _, h, u, hu => by rw [h.2] at hu; simp at hu
  | .pair a b, x, _, _, h, u, hu => by
    obtain ⟨v1, v2, i1, i2, rfl, rfl, h1, h2⟩ := h
    rcases List.mem_append.1 hu with hu | hu
    · exact h1.mem u hu
    · exact h2.mem u hu
  | .seq t, xs, _, _, h, u, hu => by
    obtain ⟨v, rfl, rfl, hf, h1⟩ := h
    rw [List.mem_singleton.1 hu]; exact ⟨t, xs, hf, h1⟩
  | .deep _, _, _, _, h, _, _ => h.elim
theorem DeepAt.mem {t : Ty} : ∀ {xs : List t.den} {vs ins : List Value}, DeepAt c base t xs vs ins → ∀ u ∈ ins, ∃ (e : Ty) (ys : List e.den), e.flat = true ∧ RowOld c base u e ys
  | [], _, _, h, u, hu => by rw [h.2] at hu; simp at hu
  | x :: xs, _, _, h, u, hu => by
    obtain ⟨v1, v2, i1, i2, rfl, rfl, h1, h2⟩ := h
    rcases List.mem_append.1 hu with hu | hu
    · exact h1.mem u hu
    · exact DeepAt.mem h2 u hu
theorem DeepRow.mono (hle : c.le c') {v : Value} {t : Ty} {xs : List t.den} (hb : ∀ b, Owns v b → c'.w.heap[b]? = c.w.heap[b]?) (h : DeepRow c base v t xs) : DeepRow c' base v t xs := by
  obtain ⟨s, ins, rfl, hd, h⟩ := h
  have hb' : ∀ u ∈ s :: ins, ∀ b, blkOf u = some b → c'.w.heap[b]? = c.w.heap[b]? := fun u hu b e => hb b ⟨u, hu, e⟩
  refine ⟨s, ins, rfl, hd, h.imp id ?_⟩
  rintro ⟨b, cap, vs, rest, ty, pre, rfl, h1, h2, h3, h4⟩
  exact ⟨b, cap, vs, rest, ty, pre, rfl, h1, (hb' _ List.mem_cons_self b (owns_some h4.2.2)).trans h2, h3.mono hle fun u hu => hb' u (List.mem_cons_of_mem _ hu), h4⟩
theorem DeepRow.lt {v : Value} {t : Ty} {xs : List t.den} (h : DeepRow c base v t xs) {b : Nat} (hb : Owns v b) : base.own b ∧ b < c.w.heap.size := by
  obtain ⟨s, ins, rfl, hd, h⟩ := h
  obtain ⟨u, hu, e⟩ := hb
  rcases h with ⟨⟨a, rfl⟩, _, rfl⟩ | ⟨b0, cap, vs, rest, ty, pre, rfl, h1, h2, h3, h4⟩
  · simp only [List.mem_cons, List.not_mem_nil, or_false] at hu
    subst hu
    exact (owns_zero (show Owns _ b from e)).elim
  · rcases List.mem_cons.1 hu with rfl | hu
    · have hb : b0 = b := owns_slice e
      subst hb
      refine ⟨h1, ?_⟩
      rcases Nat.lt_or_ge b0 c.w.heap.size with h' | h'
      · exact h'
      · rw [Array.getElem?_eq_none h'] at h2; simp at h2
    · obtain ⟨e', ys, _, hr⟩ := h3.mem u hu
      exact hr.lt ((owns_blk hr.slice).2 e)
theorem RowDen.or {v : Value} {t : Ty} {xs : List t.den} (h : RowDen c base v t xs) : (t.isDeep = false ∧ RowOld c base v t xs) ∨ ∃ (t' : Ty) (xs' : List t'.den), t = .deep t' ∧ HEq xs xs' ∧ DeepRow c base v t' xs' := by
  cases t <;> first | exact .inl ⟨rfl, h⟩ | exact .inr ⟨_, _, rfl, HEq.rfl, h⟩
theorem RowDen.mono (hle : c.le c') {v : Value} {t : Ty} {xs : List t.den} (hb : ∀ b, Owns v b → c'.w.heap[b]? = c.w.heap[b]?) (h : RowDen c base v t xs) : RowDen c' base v t xs := by
  cases t with
  | deep t' => exact DeepRow.mono (t := t') (xs := xs) hle hb h
  | _ => exact RowOld.mono hle hb h
theorem RowDen.lt {v : Value} {t : Ty} {xs : List t.den} (h : RowDen c base v t xs) {b : Nat} (hb : Owns v b) : base.own b ∧ b < c.w.heap.size := by
  cases t with
  | deep t' => exact DeepRow.lt (t := t') (xs := xs) h hb
  | _ => exact RowOld.lt h hb
theorem HoleDen.move {B B' : Base} {v u0 : Value} {t e : Ty} {xs : List t.den} {i off : Nat} (ho : ∀ b, Owns v b → B.own b → B'.own b) (hb : ∀ b, Owns v b → c'.w.heap[b]? = c.w.heap[b]?) (h : HoleDen c B v t e xs i off u0) : HoleDen c' B' v t e xs i off u0 := by
  obtain ⟨s, ia, ic, rfl, h1, h2, b, cap, vs, rest, ty, pre, rfl, g1, g2, g3, g4, g5, g6, g7, g8, g9, g10, g11⟩ := h
  have hon : ∀ u' ∈ ia ++ ic, ∀ b', blkOf u' = some b' → Owns (.tuple (List.toArray (Value.slice (some ⟨b, List.length pre, none⟩) xs.length cap :: (ia ++ ic)))) b' := fun u' hu' b' e => ⟨u', List.mem_cons_of_mem _ hu', e⟩
  have hob : Owns (.tuple (List.toArray (Value.slice (some ⟨b, List.length pre, none⟩) xs.length cap :: (ia ++ ic)))) b := ⟨_, List.mem_cons_self, owns_some (a := ⟨b, List.length pre, none⟩) g11⟩
  have key : ∀ (b' : Nat), b' < c.w.heap.size → c'.w.heap[b']? = c.w.heap[b']? → b' < c'.w.heap.size := fun b' h1 h2 => by
    rw [Array.getElem?_eq_getElem h1] at h2
    rcases Nat.lt_or_ge b' c'.w.heap.size with h' | h'
    · exact h'
    · rw [Array.getElem?_eq_none h'] at h2; simp at h2
  refine ⟨_, ia, ic, rfl, h1, h2, b, cap, vs, rest, ty, pre, rfl, ho b hob g1, (hb b hob).trans g2, fun u' hu' b' e => ⟨ho b' (hon u' hu' b' e) (g3 u' hu' b' e).1, key b' (g3 u' hu' b' e).2 (hb b' (hon u' hu' b' e))⟩, fun c2 B2 hm => g4 c2 B2 fun u' hu' b' e => ?_, g5, g6, g7, g8, g9, g10, g11⟩
  have h3 := hm u' hu' b' e
  exact ⟨fun h => h3.1 (ho b' (hon u' hu' b' e) h), h3.2.trans (hb b' (hon u' hu' b' e))⟩
theorem HoleDen.lt {B : Base} {v u0 : Value} {t e : Ty} {xs : List t.den} {i off : Nat} (h : HoleDen c B v t e xs i off u0) {b' : Nat} (hb : Owns v b') : B.own b' ∧ b' < c.w.heap.size := by
  obtain ⟨s, ia, ic, rfl, h1, h2, b, cap, vs, rest, ty, pre, rfl, g1, g2, g3, g4, g5, g6, g7, g8, g9, g10, g11⟩ := h
  obtain ⟨u, hu, e1⟩ := hb
  have hu : u ∈ Value.slice (some ⟨b, List.length pre, none⟩) xs.length cap :: (ia ++ ic) := hu
  rcases List.mem_cons.1 hu with rfl | hu
  · have hb : b = b' := owns_slice e1
    subst hb
    refine ⟨g1, ?_⟩
    rcases Nat.lt_or_ge b c.w.heap.size with h' | h'
    · exact h'
    · rw [Array.getElem?_eq_none h'] at g2; simp at g2
  · exact g3 u hu b' e1
theorem BlkDen.mono (hle : c.le c') {v : Value} {B : Blk} (hb : ∀ b, Owns v b → c'.w.heap[b]? = c.w.heap[b]?) (h : BlkDen c base v B) : BlkDen c' base v B := by
  cases B with
  | box cs =>
    obtain ⟨b, vs, ty, rfl, h1, h2, h3⟩ := h
    exact ⟨b, vs, ty, rfl, h1, (hb b rfl).trans h2, DenL.mono hle h3⟩
  | row t xs =>
    exact RowDen.mono hle hb h
  | dead => trivial
  | hole t e xs i off d =>
    obtain ⟨h1, h2⟩ := h
    refine ⟨hle.dom _ h1, ?_⟩
    rw [hle.ref _ h1]
    exact h2.move (fun _ _ h => h) hb
theorem BlkDen.lt {v : Value} {B : Blk} (h : BlkDen c base v B) (hl : B.live = true) {b : Nat} (hb : Owns v b) : base.own b ∧ b < c.w.heap.size := by
  have key : ∀ (b : Nat) (o : Obj), c.w.heap[b]? = some o → b < c.w.heap.size := fun b o h => by
    rcases Nat.lt_or_ge b c.w.heap.size with h' | h'
    · exact h'
    · rw [Array.getElem?_eq_none h'] at h; simp at h
  cases B with
  | box cs =>
    obtain ⟨b', vs, ty, rfl, h1, h2, h3⟩ := h
    simp only [Owns, blkOf, Option.some.injEq] at hb
    subst hb
    exact ⟨h1, key _ _ h2⟩
  | row t xs => exact RowDen.lt h hb
  | dead => simp [Blk.live] at hl
  | hole t e xs i off d => exact h.2.lt hb
theorem RepAt.den (h : RepAt base σ a w ref) (x : Operand) : Den (cxOf base σ w ref) (opVal σ.env x) (a.eval x) := opVal_den h x
theorem nbeq_ne {k d : Nat} (h : k ≠ d) : Nat.beq k d = false := by
  cases h' : Nat.beq k d
  · rfl
  · exact absurd (Nat.eq_of_beq_eq_true h') h
theorem putEnv_den {env : Nat → AV} {dst : Option Nat} {v : AV} {u : Value} (hd : ∀ d, dst = some d → d < a.tmps.size) (he : ∀ k, Den c (env k) (a.tmps.getD k Go.undef)) (hv : dst ≠ none → Den c v u) :
    ∀ k, Den c (putEnv env dst v k) ((a.put dst u).tmps.getD k Go.undef) := by
  intro k
  cases dst with
  | none => exact he k
  | some d =>
    have hd := hd d rfl
    simp only [putEnv, Act.put]
    by_cases hk : k = d
    · subst hk
      simp only [Nat.beq_refl, cond_true, Array.getD_eq_getD_getElem?, Array.getElem?_setIfInBounds_self_of_lt hd, Option.getD_some]
      exact hv (by simp)
    · have : Nat.beq k d = false := nbeq_ne hk
      simp only [this, cond_false, Array.getD_eq_getD_getElem?, Array.getElem?_setIfInBounds_ne (Ne.symm hk)]
      simpa [Array.getD_eq_getD_getElem?] using he k
theorem dstOk_lt {dst : Option Nat} (h : dstOk σ dst = true) (hs : a.tmps.size = σ.nt) : ∀ d, dst = some d → d < a.tmps.size := by
  rintro d rfl
  simp only [dstOk, Nat.blt, Nat.ble_eq] at h
  omega
theorem put_size (dst : Option Nat) (u : Value) : (a.put dst u).tmps.size = a.tmps.size := by cases dst <;> simp [Act.put]
theorem put_defers (dst : Option Nat) (u : Value) : (a.put dst u).defers = a.defers := by cases dst <;> simp [Act.put]
/-- Nothing but a slot. -/
theorem RepAt.put {dst : Option Nat} {v : AV} {u : Value} (h : RepAt base σ a w ref) (hd : dstOk σ dst = true) (hv : dst ≠ none → Den (cxOf base σ w ref) v u) : RepAt base (σ.apply dst v []) (a.put dst u) w ref :=
  ⟨(put_size dst u).trans h.size, putEnv_den (dstOk_lt hd h.size) h.env hv, h.blk, h.inj, h.le, h.lent⟩
theorem Rep.put {dst : Option Nat} {v : AV} {u : Value} (h : RepAt base σ a w ref) (h1 : a.defers = []) (h2 : Bel base w0 w) (h3 : base.n ≤ w.heap.size) (hd : dstOk σ dst = true) (hv : dst ≠ none → Den (cxOf base σ w ref) v u) : Rep base w0 (σ.apply dst v []) (a.put dst u) w :=
  ⟨(put_defers dst u).trans h1, h2, h3, ref, h.put hd hv⟩
/-- The world grows: new blocks. -/
theorem cx_grow (hs : w.heap.size ≤ w'.heap.size) (hb : ∀ b, b < w.heap.size → w'.heap[b]? = w.heap[b]?) : (cxOf base σ w ref).le (cxOf base σ w' ref) :=
  ⟨fun _ h => h, fun _ _ => rfl, fun b h => ⟨Nat.lt_of_lt_of_le h.1 hs, h.2.1, h.2.2⟩, fun b o h => cell_of_block (hb b h.1)⟩
theorem RepAt.grow (h : RepAt base σ a w ref) (hs : w.heap.size ≤ w'.heap.size) (hb : ∀ b, b < w.heap.size → w'.heap[b]? = w.heap[b]?) : RepAt base σ a w' ref := by
  refine ⟨h.size, fun k => (h.env k).mono (cx_grow (base := base) hs hb), fun n B hn => ?_, h.inj, h.le, h.lent⟩
  cases hl : B.live with
  | true => exact (h.blk n B hn).mono (cx_grow (base := base) hs hb) fun b hb' => hb b ((h.blk n B hn).lt hl hb').2
  | false => cases B <;> simp [Blk.live] at hl; trivial
/-- A new name, for a new block or for none. -/
theorem cx_add {σ' : St} {nm : Nat} {B : Blk} {u : Value} (hn : σ.heap nm = none) (hσ : ∀ n, σ'.heap n = if n = nm then some B else σ.heap n) (hs : w.heap.size ≤ w'.heap.size) (hb : ∀ b, b < w.heap.size → w'.heap[b]? = w.heap[b]?)
    (hu : ∀ b, Owns u b → w.heap.size ≤ b) : (cxOf base σ w ref).le (cxOf base σ' w' (fun n => if n = nm then u else ref n)) := by
  have hne : ∀ n B', σ.heap n = some B' → n ≠ nm := by rintro n B' h rfl; rw [hn] at h; simp at h
  refine ⟨fun n ⟨B', h⟩ => ⟨B', by rw [hσ, if_neg (hne n B' h)]; exact h⟩, fun n ⟨B', h⟩ => by simp [cxOf, hne n B' h], fun b h => ⟨Nat.lt_of_lt_of_le h.1 hs, h.2.1, fun n B' hB hl => ?_⟩, fun b o h => cell_of_block (hb b h.1)⟩
  rw [hσ] at hB
  split at hB
  · rename_i he
    subst he
    simp only [if_true]
    intro hb'
    have := hu b hb'
    have := h.1
    omega
  · rename_i he
    simp only [if_neg he]
    exact h.2.2 n B' hB hl
theorem dst_ne {d : Nat} (h : RepAt base σ a w ref) (hd : dstOk σ (some d) = true) : d ≠ BR := by
  have := h.le
  simp only [dstOk, Nat.blt, Nat.ble_eq] at hd
  omega
theorem RepAt.add {σ' : St} {nm : Nat} {B : Blk} {u : Value} (h : RepAt base σ a w ref) (hbr : nm ≠ BR) (hn : σ.heap nm = none) (hσ : ∀ n, σ'.heap n = if n = nm then some B else σ.heap n) (henv : σ'.env = σ.env) (hnt : σ'.nt = σ.nt)
    (hs : w.heap.size ≤ w'.heap.size) (hb : ∀ b, b < w.heap.size → w'.heap[b]? = w.heap[b]?) (hu : ∀ b, Owns u b → w.heap.size ≤ b) (hB : BlkDen (cxOf base σ' w' (fun n => if n = nm then u else ref n)) base u B) :
    RepAt base σ' a w' (fun n => if n = nm then u else ref n) := by
  have hle := cx_add (base := base) (ref := ref) hn hσ hs hb hu
  refine ⟨by rw [hnt]; exact h.size, fun k => by rw [henv]; exact (h.env k).mono hle, fun n B' hB' => ?_, fun n m B1 B2 b h1 l1 h2 l2 b1 b2 => ?_, by rw [hnt]; exact h.le, fun u' hu' hx => ?_⟩
  · rw [hσ] at hB'
    split at hB'
    · rename_i he
      subst he
      simp only [Option.some.injEq] at hB'
      subst hB'
      simpa using hB
    · rename_i he
      simp only [if_neg he]
      cases hl : B'.live with
      | true => exact (h.blk n B' hB').mono hle fun b hb' => hb b ((h.blk n B' hB').lt hl hb').2
      | false => cases B' <;> simp [Blk.live] at hl; trivial
  · have lt : ∀ n B', n ≠ nm → σ'.heap n = some B' → B'.live = true → Owns (ref n) b → b < w.heap.size := fun n B' he hh hl hb' => by
      rw [hσ, if_neg he] at hh
      exact ((h.blk n B' hh).lt hl hb').2
    by_cases e1 : n = nm <;> by_cases e2 : m = nm
    · rw [e1, e2]
    · simp only [if_pos e1] at b1
      simp only [if_neg e2] at b2
      have := hu b b1
      have := lt m B2 e2 h2 l2 b2
      omega
    · simp only [if_neg e1] at b1
      simp only [if_pos e2] at b2
      have := hu b b2
      have := lt n B1 e1 h1 l1 b1
      omega
    · simp only [if_neg e1] at b1
      simp only [if_neg e2] at b2
      rw [hσ, if_neg e1] at h1
      rw [hσ, if_neg e2] at h2
      exact h.inj n m B1 B2 b h1 l1 h2 l2 b1 b2
  · rw [hσ, if_neg (Ne.symm hbr)] at hx
    simp only [if_neg (Ne.symm hbr)]
    exact h.lent u' hu' hx
/-- One block has been written. -/
structure Wrote (w w' : World) (b : Nat) (o : Obj) : Prop where
  os : w'.os = w.os
  tape : w'.tape = w.tape
  output : w'.output = w.output
  size : w'.heap.size = w.heap.size
  here : w'.heap[b]? = some o
  other : ∀ b', b' ≠ b → w'.heap[b']? = w.heap[b']?
theorem Wrote.below {b : Nat} {o : Obj} (h : Wrote w w' b o) (hb : Bel base w0 w) (hle : base.own b) : Bel base w0 w' :=
  hb.trans ⟨h.os, h.tape, h.output, by rw [h.size]; exact Nat.le_refl _, fun k hk hnb => h.other k (by
    rintro rfl
    rcases hle with hle | hle
    · omega
    · exact hnb hle)⟩
theorem storeCells_wrote {b off : Nat} {ty : TypeId} : ∀ (us : List Value) (i : Nat) (xs : List Value) (w : World), w.heap[b]? = some (.cells xs.toArray ty (0, 0)) → (∀ u ∈ us, u.oneCell' = true) → off + i + us.length ≤ xs.length →
    ∃ w', (storeCells ⟨b, off, none⟩ us i).run P w = .ok () w' ∧ Wrote w w' b (.cells (List.toArray (xs.take (off + i) ++ us ++ xs.drop (off + i + us.length))) ty (0, 0))
  | [], i, xs, w, h, _, _ => ⟨w, by simp [storeCells], rfl, rfl, rfl, rfl, by simp [h], fun _ _ => rfl⟩
  | u :: us, i, xs, w, h, hu, hl => by
    simp only [List.length_cons] at hl
    have hlt : b < w.heap.size := by
      rcases Nat.lt_or_ge b w.heap.size with h' | h'
      · exact h'
      · rw [Array.getElem?_eq_none h'] at h; simp at h
    have hcell : w.cell? ⟨b, off + i, none⟩ = some xs[off + i] := by simp [World.cell?, h, show off + i < xs.length by omega]
    have hfro : w.frozen? ⟨b, off + i, none⟩ = false := by simp [World.frozen?, h]
    have h1 : (w.setCell ⟨b, off + i, none⟩ u).heap[b]? = some (.cells (xs.set (off + i) u).toArray ty (0, 0)) := by
      simp [World.setCell, Array.getElem?_modify, h]
    obtain ⟨w', hr, hw⟩ := storeCells_wrote (off := off) us (i + 1) (xs.set (off + i) u) _ h1 (fun v hv => hu v (by simp [hv])) (by simp; omega)
    refine ⟨w', ?_, ?_⟩
    · simp only [storeCells, Sem.run_bind, add_addr, run_store P w _ u _ (hu u (by simp)), hcell, hfro, Bool.false_eq_true, if_false, Result.andThen_ok]
      exact hr
    · refine ⟨hw.os, hw.tape, hw.output, by rw [hw.size]; simp [World.setCell], ?_, fun b' hb' => (hw.other b' hb').trans (Below.heap_setCell _ _ _ _ hb')⟩
      rw [hw.here]
      have e : (xs.set (off + i) u).take (off + (i + 1)) ++ us ++ (xs.set (off + i) u).drop (off + (i + 1) + us.length) = xs.take (off + i) ++ (u :: us) ++ xs.drop (off + i + (us.length + 1)) := by
        rw [List.drop_set_of_lt (by omega), ← Nat.add_assoc, List.take_succ_eq_append_getElem (by simp; omega)]
        simp [List.take_set]
        rw [List.set_eq_of_length_le (by simp; omega), show off + i + 1 + us.length = off + i + (us.length + 1) by omega]
      rw [e]
      rfl
theorem DenL.splice {cs us : List AV} {vs xs : List Value} {off : Nat} (h : DenL c cs xs) (hu : DenL c us vs) : DenL c (Sx.splice cs off us) (xs.take off ++ vs ++ xs.drop (off + vs.length)) := by
  rw [hu.length]
  exact ((h.take off).append hu).append (h.drop _)
theorem RepAt.wrote {σ' : St} {nm : Nat} {B B' : Blk} {b : Nat} {o : Obj} (h : RepAt base σ a w ref) (hn : σ.heap nm = some B) (hl : B.live = true) (hb : Owns (ref nm) b) (hl' : B'.live = true)
    (hσ : ∀ n, σ'.heap n = if n = nm then some B' else σ.heap n) (henv : σ'.env = σ.env) (hnt : σ'.nt = σ.nt) (hw : Wrote w w' b o)
    (hB : (cxOf base σ w ref).le (cxOf base σ' w' ref) → BlkDen (cxOf base σ' w' ref) base (ref nm) B') : RepAt base σ' a w' ref ∧ (cxOf base σ w ref).le (cxOf base σ' w' ref) := by
  have hle : (cxOf base σ w ref).le (cxOf base σ' w' ref) := by
    refine ⟨fun n ⟨B1, h1⟩ => ?_, fun _ _ => rfl, fun b' h' => ⟨by rw [hw.size]; exact h'.1, h'.2.1, fun n B1 h1 l1 => ?_⟩, fun b' o' h' => cell_of_block (hw.other b' ?_)⟩
    · by_cases he : n = nm
      · exact ⟨B', by rw [hσ, if_pos he]⟩
      · exact ⟨B1, by rw [hσ, if_neg he]; exact h1⟩
    · rw [hσ] at h1
      split at h1
      · rename_i he; subst he; exact h'.2.2 n B hn hl
      · exact h'.2.2 n B1 h1 l1
    · rintro rfl
      exact h'.2.2 nm B hn hl hb
  refine ⟨⟨by rw [hnt]; exact h.size, fun k => by rw [henv]; exact (h.env k).mono hle, fun n B1 h1 => ?_, fun n m B1 B2 b1 h1 l1 h2 l2 e1 e2 => ?_, by rw [hnt]; exact h.le, fun u' hu' hx => h.lent u' hu' (fun hy => hx (by
    rw [hσ]
    split
    · rename_i he; rw [he, hn] at hy; simp at hy
    · exact hy))⟩, hle⟩
  · rw [hσ] at h1
    split at h1
    · rename_i he
      subst he
      simp only [Option.some.injEq] at h1
      subst h1
      exact hB hle
    · rename_i he
      cases hl1 : B1.live with
      | true => exact (h.blk n B1 h1).mono hle fun b1 hb1 => hw.other b1 (by rintro rfl; exact he (h.inj n nm B1 B _ h1 hl1 hn hl hb1 hb))
      | false => cases B1 <;> simp [Blk.live] at hl1; trivial
  · have key : ∀ n B1, σ'.heap n = some B1 → B1.live = true → ∃ B2, σ.heap n = some B2 ∧ B2.live = true := fun n B1 h1 l1 => by
      rw [hσ] at h1
      split at h1
      · rename_i he; subst he; exact ⟨B, hn, hl⟩
      · exact ⟨B1, h1, l1⟩
    obtain ⟨C1, k1, m1⟩ := key n B1 h1 l1
    obtain ⟨C2, k2, m2⟩ := key m B2 h2 l2
    exact h.inj n m C1 C2 b1 k1 m1 k2 m2 e1 e2
end
end Sx
end Go.Proofs.Ytemlpimibhijoaa
