/- The evaluator is sound: the operations that touch memory; contracts of callees. Conditions: as each says. -/
import Derived.Test.YtemlpimibhijoaaSxE
set_option linter.unusedSimpArgs false
set_option linter.unusedVariables false
namespace Go.Proofs.Ytemlpimibhijoaa
open Go.RowKit
namespace Sx
/-- What an argument or a result is read under: no names. -/
def pureCx (w : World) (okc : Nat → Prop := fun _ => True) : Cx := { ref := fun _ => Go.undef, dom := fun _ => False, w, ok := fun b => b < w.heap.size ∧ okc b }
/-- A result's own: the name 0 stands for the row that it brings along, u. -/
def resCx (B : Base) (w : World) (u : Value) (own : Prop) : Cx := { ref := fun _ => u, dom := fun m => m = 0 ∧ own, w, ok := fun b => B.sees b ∧ b < w.heap.size ∧ ¬ Owns u b }
/-- What arguments are read under, one of which brings along a row, u, that is lent. -/
def lentCx (w : World) (u : Value) : Cx := { ref := fun _ => u, dom := fun m => m = BR, w, ok := fun b => b < w.heap.size ∧ ¬ Owns u b }
def lentB (w : World) (u : Value) : Base := { n := w.heap.size, br := fun b => Owns u b, lv := some u }
theorem Good.of {B : Base} {w : World} (h : Good B w) (hle : B.n ≤ w.heap.size) (okc : Nat → Prop) : Good (Base.of w.heap.size okc) w := ⟨h.inv, Nat.le_trans h.n hle, fun _ hx => hx.elim⟩
theorem Good.lent {B : Base} {w : World} (h : Good B w) (hle : B.n ≤ w.heap.size) {u : Value} (hu : ∀ b, Owns u b → GN ≤ b) : Good (lentB w u) w := ⟨h.inv, Nat.le_trans h.n hle, hu⟩
/-- Arguments, one row among them that is lent, u; none: then u stands for nothing. -/
structure Lent (w : World) (u : Value) (args : List AV) (vs : List Value) : Prop where
  den : DenL (lentCx w u) (rowed.rowedL BR args) vs
  row : ∀ t xs, ownsOf.ownsL args = [⟨t, xs⟩] → BlkDen (lentCx w u) (lentB w u) u (.row t xs)
  none : ownsOf.ownsL args = [] → u = Go.undef
  one : (ownsOf.ownsL args).length ≤ 1
  names : AV.names.namesL args = []
/-- What comes back: a value that reads as the contract says; a row that it brings along is new, and nobody else's. -/
def Gives (B : Base) (w : World) (v : AV) (r : Value) : Prop :=
  ∃ u, Den (resCx B w u (ownsOf v ≠ [])) (rowed 0 v) r ∧ (ownsOf v = [] → u = Go.undef) ∧ ∀ t xs, ownsOf v = [⟨t, xs⟩] → BlkDen (resCx B w u True) B u (.row t xs)
def GivesU (B : Base) (w : World) (v : AV) (r u : Value) : Prop :=
  Den (resCx B w u (ownsOf v ≠ [])) (rowed 0 v) r ∧ (ownsOf v = [] → u = Go.undef) ∧ ∀ t xs, ownsOf v = [⟨t, xs⟩] → BlkDen (resCx B w u True) B u (.row t xs)
/-- A box that is lent, u; what else may be read. -/
def lentBo (w : World) (u : Value) (okc : Nat → Prop) : Base := { n := w.heap.size, br := fun b => Owns u b, lv := some u, okc := okc }
def lentCo (w : World) (u : Value) (okc : Nat → Prop) : Cx := { ref := fun _ => u, dom := fun m => m = BR, w, ok := fun b => b < w.heap.size ∧ okc b ∧ ¬ Owns u b }
def afterCo (w w' : World) (u u' : Value) (okc : Nat → Prop) : Cx := { ref := fun _ => u, dom := fun _ => False, w := w', ok := fun b => (w.heap.size ≤ b ∨ okc b) ∧ b < w'.heap.size ∧ ¬ Owns u b ∧ ¬ Owns u' b }
theorem Good.lentO {B : Base} {w : World} (h : Good B w) (hle : B.n ≤ w.heap.size) {u : Value} (okc : Nat → Prop) (hu : ∀ b, Owns u b → GN ≤ b) : Good (lentBo w u okc) w := ⟨h.inv, Nat.le_trans h.n hle, hu⟩
/-- The function f answers as the contract says: it returns, has changed nothing that was there. -/
def Sat (P : Program) (f : FuncId) (ct : Ct) : Prop :=
  match ct with
  | .rd ct => ∀ args p v, ct args = some (p, v) → p.ok → ∀ w okc vs, Good (Base.of w.heap.size okc) w → DenL (pureCx w okc) args vs → Calls P f vs.toArray w fun e w' => ∃ r, e = .returned r ∧ Gives (Base.of w.heap.size okc) w' v r ∧ Bel (Base.of w.heap.size okc) w w'
  | .wt ct => ∀ args p v o, ct args = some (p, v, o) → p.ok → ∀ w vs u, Good (lentB w u) w → Lent w u args vs → Calls P f vs.toArray w fun e w' => ∃ r, e = .returned r ∧ (plain v = true → Gives (Base.of w.heap.size) w' v r) ∧ (ownsOf.ownsL args ≠ [] → BlkDen (lentCx w' u) (lentB w u) u (.row o.t o.xs)) ∧ Bel (lentB w u) w w'
  | .mv ct => ∀ args p v, ct args = some (p, v) → p.ok → ∀ w vs u, Good (lentB w u) w → Lent w u args vs → Calls P f vs.toArray w fun e w' => ∃ r, e = .returned r ∧ Gives (lentB w u) w' v r ∧ Bel (lentB w u) w w'
  | .bx ct => ∀ d args p v d', ct d args = some (p, v, d') → p.ok → ∀ w okc vs u, Good (lentBo w u okc) w → BlkDen (lentCo w u okc) (lentBo w u okc) u (.box (enc d.t d.x)) → DenL (lentCo w u okc) args vs →
      Calls P f (u :: vs).toArray w fun e w' => ∃ r, e = .returned r ∧ ∃ u', (noView v = true → GivesU (Base.of w.heap.size) w' v r u') ∧ BlkDen (afterCo w w' u u' okc) (lentBo w u okc) u (.box (enc d'.t d'.x)) ∧ Bel (lentBo w u okc) w w'
  | .nb ct => ∀ args p d, ct args = some (p, d) → p.ok → ∀ w okc vs, Good (Base.of w.heap.size okc) w → DenL (pureCx w okc) args vs → Calls P f vs.toArray w fun e w' => ∃ r, e = .returned r ∧ BlkDen (resCx (Base.of w.heap.size okc) w' r False) (Base.of w.heap.size okc) r (.box (enc d.t d.x)) ∧ Bel (Base.of w.heap.size okc) w w'
/-- All contracts hold; the world is as they want it. -/
def CG (P : Program) (C : FuncId → Option Ct) (B : Base) (w : World) : Prop := (∀ f ct, C f = some ct → Sat P f ct) ∧ Good B w
theorem CG.bel {P : Program} {C : FuncId → Option Ct} {B : Base} {w w' : World} (h : CG P C B w) (hb : Bel B w w') : CG P C B w' := ⟨h.1, h.2.bel hb⟩
section
variable {P : Program} {base : Base} {w0 w w' : World} {σ : St} {a : Act} {ref : Nat → Value} {c c' : Cx}
theorem Reads.flat {ok ok' : Nat → Prop} : ∀ {t : Ty} {x : t.den} {vs : List Value}, t.flat = true → Reads w ok t x vs → Reads w' ok' t x vs
  | .int _, _, _, _, h => h
  | .bool, _, _, _, h => h
  | .str, _, _, _, h => h
  | .pair _ _, _, _, hf, h => by
    simp only [Ty.flat, Bool.and_eq_true] at hf
    obtain ⟨v1, v2, rfl, h1, h2⟩ := h
    exact ⟨v1, v2, rfl, h1.flat hf.1, h2.flat hf.2⟩
  | .seq _, _, _, hf, _ => by simp [Ty.flat] at hf
  | .deep _, _, _, hf, _ => by simp [Ty.flat] at hf
theorem RowAt.flat {ok ok' : Nat → Prop} {t : Ty} {xs : List t.den} {vs : List Value} (hf : t.flat = true) (h : RowAt w ok t xs vs) : RowAt w' ok' t xs vs :=
  ⟨h.1, fun i hi => by obtain ⟨us, h1, h2⟩ := h.2 i hi; exact ⟨us, h1.flat hf, h2⟩⟩
theorem okR_flat {t : Ty} (h : t.okR = true) (hp : t.isDeep = false) : t.flat = true := by
  simpa [Ty.okR, hp] using h
theorem flat_okR {t : Ty} (h : t.flat = true) : t.okR = true := by simp [Ty.okR, h]
theorem flat_plain {t : Ty} (h : t.flat = true) : t.isDeep = false := by cases t <;> first | rfl | (simp [Ty.flat] at h)
theorem RowOld.move {c c' : Cx} {B B' : Base} {v : Value} {t : Ty} {xs : List t.den} (ho : ∀ b, Owns v b → B.own b → B'.own b) (hh : ∀ b, Owns v b → c'.w.heap[b]? = c.w.heap[b]?) (hr : ∀ vs, RowAt c.w c.ok t xs vs → RowAt c'.w c'.ok t xs vs) (h : RowOld c B v t xs) : RowOld c' B' v t xs := by
  rcases h with h | ⟨b, cap, vs, rest, ty, pre, rfl, h1, h2, h3, h4⟩
  · exact .inl h
  · have hb := owns_some (a := ⟨b, List.length pre, none⟩) (n := xs.length) h4.2.2
    exact .inr ⟨b, cap, vs, rest, ty, pre, rfl, ho b hb h1, (hh b hb).trans h2, hr _ h3, h4⟩
theorem DeepR.move {c c' : Cx} {B B' : Base} : ∀ {t : Ty} {x : t.den} {vs ins : List Value}, (∀ u ∈ ins, ∀ b, blkOf u = some b → (B.own b → B'.own b) ∧ c'.w.heap[b]? = c.w.heap[b]?) → DeepR c B t x vs ins → DeepR c' B' t x vs ins
  | .int _, _, _, _, _, h => h
  | .bool, _, _, _, _, h => h
  | .str, _, _, _, _, h => h
  | .pair a b, x, _, _, hb, h => by
    obtain ⟨v1, v2, i1, i2, rfl, rfl, h1, h2⟩ := h
    exact ⟨v1, v2, i1, i2, rfl, rfl, h1.move fun u hu => hb u (List.mem_append.2 (.inl hu)), h2.move fun u hu => hb u (List.mem_append.2 (.inr hu))⟩
  | .seq t, xs, _, _, hb, h => by
    obtain ⟨v, rfl, rfl, hf, h1⟩ := h
    have hs := h1.slice
    exact ⟨v, rfl, rfl, hf, h1.move (fun b e => (hb v (by simp) b ((owns_blk hs).1 e)).1) (fun b e => (hb v (by simp) b ((owns_blk hs).1 e)).2) fun _ hr => hr.flat hf⟩
  | .deep _, _, _, _, _, h => h.elim
theorem DeepAt.move {c c' : Cx} {B B' : Base} {t : Ty} : ∀ {xs : List t.den} {vs ins : List Value}, (∀ u ∈ ins, ∀ b, blkOf u = some b → (B.own b → B'.own b) ∧ c'.w.heap[b]? = c.w.heap[b]?) → DeepAt c B t xs vs ins → DeepAt c' B' t xs vs ins
  | [], _, _, _, h => h
  | x :: xs, _, _, hb, h => by
    obtain ⟨v1, v2, i1, i2, rfl, rfl, h1, h2⟩ := h
    exact ⟨v1, v2, i1, i2, rfl, rfl, h1.move fun u hu => hb u (List.mem_append.2 (.inl hu)), DeepAt.move (fun u hu => hb u (List.mem_append.2 (.inr hu))) h2⟩
/-- A row, seen from elsewhere: its blocks are still its own and the same. -/
theorem RowDen.move {c c' : Cx} {B B' : Base} {v : Value} {t : Ty} {xs : List t.den} (ho : ∀ b, Owns v b → B.own b → B'.own b) (hh : ∀ b, Owns v b → c'.w.heap[b]? = c.w.heap[b]?) (hr : t.isDeep = false → ∀ vs, RowAt c.w c.ok t xs vs → RowAt c'.w c'.ok t xs vs) (h : RowDen c B v t xs) : RowDen c' B' v t xs := by
  cases t with
  | deep t' =>
    obtain ⟨s, ins, rfl, hd, h⟩ := (show DeepRow c B v t' xs from h)
    refine (show DeepRow c' B' _ t' xs from ⟨s, ins, rfl, hd, h.imp id ?_⟩)
    rintro ⟨b, cap, vs, rest, ty, pre, rfl, h1, h2, h3, h4⟩
    have hb : Owns (.tuple (List.toArray (Value.slice (some ⟨b, List.length pre, none⟩) xs.length cap :: ins))) b := ⟨_, List.mem_cons_self, owns_some (a := ⟨b, List.length pre, none⟩) h4.2.2⟩
    exact ⟨b, cap, vs, rest, ty, pre, rfl, ho b hb h1, (hh b hb).trans h2, h3.move fun u hu b' e => ⟨ho b' ⟨u, List.mem_cons_of_mem _ hu, e⟩, hh b' ⟨u, List.mem_cons_of_mem _ hu, e⟩⟩, h4⟩
  | _ => exact RowOld.move ho hh (hr rfl) h
/-- The same, the row ahead. -/
theorem RowDen.go {c c' : Cx} {B B' : Base} {v : Value} {t : Ty} {xs : List t.den} (h : RowDen c B v t xs) (ho : ∀ b, Owns v b → B.own b → B'.own b) (hh : ∀ b, Owns v b → c'.w.heap[b]? = c.w.heap[b]?) (hr : t.isDeep = false → ∀ vs, RowAt c.w c.ok t xs vs → RowAt c'.w c'.ok t xs vs) : RowDen c' B' v t xs := RowDen.move ho hh hr h
/-- What a name of no memory stands for. -/
def nilRef (t : Ty) : Value := bif t.isDeep then .tuple #[.slice none 0 0] else .slice none 0 0
theorem nilRef_head (t : Ty) : headV (nilRef t) = .slice none 0 0 := by unfold nilRef; cases t.isDeep <;> rfl
theorem nilRef_owns {t : Ty} {b : Nat} : ¬ Owns (nilRef t) b := by unfold nilRef; cases t.isDeep <;> simp [Owns, blkOf]
theorem nilRef_row {c : Cx} {B : Base} {t : Ty} : RowDen c B (nilRef t) t [] := by
  cases t with
  | deep t' => exact ⟨.slice none 0 0, [], rfl, by simp, .inl ⟨⟨none, rfl⟩, rfl, rfl⟩⟩
  | _ => exact .inl ⟨⟨none, rfl⟩, rfl⟩
theorem RowOld.reads {c : Cx} {v : Value} {t : Ty} {xs : List t.den} {ok : Nat → Prop} (hok : ∀ b, b < c.w.heap.size → ok b) (hr : ∀ vs, RowAt c.w c.ok t xs vs → RowAt c.w ok t xs vs) (h : RowOld c base v t xs) : Reads c.w ok (.seq t) xs [v] := by
  have key : ∀ (b : Nat) (o : Obj), c.w.heap[b]? = some o → b < c.w.heap.size := fun b o h => by
    rcases Nat.lt_or_ge b c.w.heap.size with h' | h'
    · exact h'
    · rw [Array.getElem?_eq_none h'] at h; simp at h
  rcases h with ⟨⟨ad, hv⟩, rfl⟩ | ⟨b, cap, vs, rest, ty, pre, hv, _, hheap, hrow, hlen, hle, _⟩
  · exact ⟨ad, 0, by rw [hv]; rfl, Nat.le_refl _, .inl rfl⟩
  · refine ⟨some ⟨b, List.length pre, none⟩, cap, by rw [hv], hle, .inr ⟨b, _, rfl, hok _ (key _ _ hheap), fun i hi => ?_⟩⟩
    obtain ⟨us, h1, h2⟩ := (hr _ hrow).2 i hi
    refine ⟨us, h1, fun j hj => ?_⟩
    have h3 := h2 j hj
    rw [List.getElem?_eq_getElem hj] at h3
    have hlt : i * t.size + j < vs.length := by
      rcases Nat.lt_or_ge (i * t.size + j) vs.length with h | h
      · exact h
      · rw [List.getElem?_eq_none h] at h3; simp at h3
    simp only [World.cell?, hheap, Option.isSome_none, Bool.false_eq_true, if_false, Nat.add_assoc, List.getElem?_toArray]
    rw [List.getElem?_append_right (by omega), Nat.add_sub_cancel_left, List.getElem?_append_left hlt]
    exact h3
theorem DeepR.reads {c : Cx} {ok : Nat → Prop} (hok : ∀ b, b < c.w.heap.size → ok b) : ∀ {t : Ty} {x : t.den} {vs ins : List Value}, DeepR c base t x vs ins → Reads c.w ok t x vs
  | .int _, _, _, _, h => h.1
  | .bool, _, _, _, h => h.1
  | .str, _, _, _, h => h.1
  | .pair a b, x, _, _, h => by
    obtain ⟨v1, v2, i1, i2, rfl, rfl, h1, h2⟩ := h
    exact ⟨v1, v2, rfl, h1.reads hok, h2.reads hok⟩
  | .seq t, xs, _, _, h => by
    obtain ⟨v, rfl, rfl, hf, h1⟩ := h
    exact h1.reads hok fun _ hr => hr.flat hf
  | .deep _, _, _, _, h => h.elim
theorem DeepAt.reads {c : Cx} {ok : Nat → Prop} (hok : ∀ b, b < c.w.heap.size → ok b) {t : Ty} : ∀ {xs : List t.den} {vs ins : List Value}, DeepAt c base t xs vs ins → RowAt c.w ok t xs vs
  | [], vs, ins, h => by rw [h.1]; exact ⟨by simp, fun i hi => by simp at hi⟩
  | x :: xs, _, _, h => by
    obtain ⟨v1, v2, i1, i2, rfl, rfl, h1, h2⟩ := h
    have g1 := h1.reads hok
    have g2 := DeepAt.reads hok h2
    have l1 := g1.length
    refine ⟨by simp [l1, g2.1, Nat.add_mul]; omega, fun i hi => ?_⟩
    cases i with
    | zero => exact ⟨v1, g1, fun j hj => by rw [Nat.zero_mul, Nat.zero_add, List.getElem?_append_left hj]⟩
    | succ i =>
      obtain ⟨us, k1, k2⟩ := g2.2 i (by simpa using hi)
      refine ⟨us, by simpa using k1, fun j hj => ?_⟩
      rw [← k2 j hj, List.getElem?_append_right (by rw [Nat.succ_mul]; omega), Nat.succ_mul, l1]
      congr 1; omega
/-- What every own row reads as, plain or not. -/
theorem BlkDen.hdV {c : Cx} {v : Value} {t : Ty} {xs : List t.den} (hc : ∀ b, c.ok b → b < c.w.heap.size) (h : BlkDen c base v (.row t xs)) : ((∃ a, headV v = .slice a 0 0) ∧ xs = []) ∨ ∃ b cap vs rest ty pre, headV v = .slice (some ⟨b, List.length pre, none⟩) xs.length cap ∧ base.own b ∧ c.w.heap[b]? = some (.cells (List.toArray (pre ++ (vs ++ rest))) ty (0, 0)) ∧
      RowAt c.w (fun b => b < c.w.heap.size) t xs vs ∧ vs.length + rest.length = cap * t.size ∧ xs.length ≤ cap ∧ 0 < cap := by
  cases t with
  | deep t' =>
    obtain ⟨s, ins, rfl, hd, h⟩ := (show DeepRow c base v t' xs from h)
    rcases h with ⟨h1, h2, _⟩ | ⟨b, cap, vs, rest, ty, pre, h1, h2, h3, h4, h5⟩
    · exact .inl ⟨h1, h2⟩
    · refine .inr ⟨b, cap, vs, rest, ty, pre, h1, h2, h3, ?_, h5⟩
      have := h4.reads (ok := fun b => b < c.w.heap.size) fun _ h => h
      exact ⟨this.1, this.2⟩
  | _ =>
    refine (BlkDen.hd h rfl).imp id ?_
    rintro ⟨b, cap, vs, rest, ty, pre, h1, h2, h3, h4, h5⟩
    exact ⟨b, cap, vs, rest, ty, pre, h1, h2, h3, h4.mono hc (fun _ _ _ => rfl), h5⟩
/-- The same, of a value's own blocks alone. -/
theorem RowOld.readsB {c : Cx} {v : Value} {t : Ty} {xs : List t.den} {ok : Nat → Prop} (hok : ∀ b, Owns v b → ok b) (hr : ∀ vs, RowAt c.w c.ok t xs vs → RowAt c.w ok t xs vs) (h : RowOld c base v t xs) : Reads c.w ok (.seq t) xs [v] := by
  rcases h with ⟨⟨ad, hv⟩, rfl⟩ | ⟨b, cap, vs, rest, ty, pre, hv, _, hheap, hrow, hlen, hle, hc0⟩
  · exact ⟨ad, 0, by rw [hv]; rfl, Nat.le_refl _, .inl rfl⟩
  · refine ⟨some ⟨b, List.length pre, none⟩, cap, by rw [hv], hle, .inr ⟨b, _, rfl, hok _ (by rw [hv]; exact owns_some hc0), fun i hi => ?_⟩⟩
    obtain ⟨us, h1, h2⟩ := (hr _ hrow).2 i hi
    refine ⟨us, h1, fun j hj => ?_⟩
    have h3 := h2 j hj
    rw [List.getElem?_eq_getElem hj] at h3
    have hlt : i * t.size + j < vs.length := by
      rcases Nat.lt_or_ge (i * t.size + j) vs.length with h | h
      · exact h
      · rw [List.getElem?_eq_none h] at h3; simp at h3
    simp only [World.cell?, hheap, Option.isSome_none, Bool.false_eq_true, if_false, Nat.add_assoc, List.getElem?_toArray]
    rw [List.getElem?_append_right (by omega), Nat.add_sub_cancel_left, List.getElem?_append_left hlt]
    exact h3
theorem DeepR.readsB {c : Cx} {ok : Nat → Prop} : ∀ {t : Ty} {x : t.den} {vs ins : List Value}, (∀ u ∈ ins, ∀ b, blkOf u = some b → ok b) → DeepR c base t x vs ins → Reads c.w ok t x vs
  | .int _, _, _, _, _, h => h.1
  | .bool, _, _, _, _, h => h.1
  | .str, _, _, _, _, h => h.1
  | .pair a b, x, _, _, hok, h => by
    obtain ⟨v1, v2, i1, i2, rfl, rfl, h1, h2⟩ := h
    exact ⟨v1, v2, rfl, h1.readsB fun u hu => hok u (List.mem_append.2 (.inl hu)), h2.readsB fun u hu => hok u (List.mem_append.2 (.inr hu))⟩
  | .seq t, xs, _, _, hok, h => by
    obtain ⟨v, rfl, rfl, hf, h1⟩ := h
    have hs := h1.slice
    exact h1.readsB (fun b e => hok v (by simp) b ((owns_blk hs).1 e)) fun _ hr => hr.flat hf
  | .deep _, _, _, _, _, h => h.elim
theorem DeepAt.readsB {c : Cx} {ok : Nat → Prop} {t : Ty} : ∀ {xs : List t.den} {vs ins : List Value}, (∀ u ∈ ins, ∀ b, blkOf u = some b → ok b) → DeepAt c base t xs vs ins → RowAt c.w ok t xs vs
  | [], vs, ins, _, h => by rw [h.1]; exact ⟨by simp, fun i hi => by simp at hi⟩
  | x :: xs, _, _, hok, h => by
    obtain ⟨v1, v2, i1, i2, rfl, rfl, h1, h2⟩ := h
    have g1 := h1.readsB fun u hu => hok u (List.mem_append.2 (.inl hu))
    have g2 := DeepAt.readsB (fun u hu => hok u (List.mem_append.2 (.inr hu))) h2
    have l1 := g1.length
    refine ⟨by simp [l1, g2.1, Nat.add_mul]; omega, fun i hi => ?_⟩
    cases i with
    | zero => exact ⟨v1, g1, fun j hj => by rw [Nat.zero_mul, Nat.zero_add, List.getElem?_append_left hj]⟩
    | succ i =>
      obtain ⟨us, k1, k2⟩ := g2.2 i (by simpa using hi)
      refine ⟨us, by simpa using k1, fun j hj => ?_⟩
      rw [← k2 j hj, List.getElem?_append_right (by rw [Nat.succ_mul]; omega), Nat.succ_mul, l1]
      congr 1; omega
theorem DeepRow.readsB {c : Cx} {v : Value} {t : Ty} {xs : List t.den} {ok : Nat → Prop} (hok : ∀ b, Owns v b → ok b) (h : DeepRow c base v t xs) : Reads c.w ok (.seq (.deep t)) xs [headV v] := by
  obtain ⟨s, ins, rfl, hd, h⟩ := h
  rcases h with ⟨⟨ad, hv⟩, rfl, _⟩ | ⟨b, cap, vs, rest, ty, pre, hv, _, hheap, hrow, hlen, hle, hc0⟩
  · exact ⟨ad, 0, by rw [hv]; rfl, Nat.le_refl _, .inl rfl⟩
  · subst hv
    have hrow := hrow.readsB (ok := ok) fun u hu b' e => hok b' ⟨u, List.mem_cons_of_mem _ hu, e⟩
    refine ⟨some ⟨b, List.length pre, none⟩, cap, rfl, hle, .inr ⟨b, _, rfl, hok _ ⟨_, List.mem_cons_self, owns_some (a := ⟨b, List.length pre, none⟩) hc0⟩, fun i hi => ?_⟩⟩
    obtain ⟨us, h1, h2⟩ := hrow.2 i hi
    refine ⟨us, h1, fun j hj => ?_⟩
    have h3 := h2 j hj
    rw [List.getElem?_eq_getElem hj] at h3
    have hlt : i * t.size + j < vs.length := by
      rcases Nat.lt_or_ge (i * t.size + j) vs.length with h | h
      · exact h
      · rw [List.getElem?_eq_none h] at h3; simp at h3
    simp only [World.cell?, hheap, Option.isSome_none, Bool.false_eq_true, if_false, Nat.add_assoc, List.getElem?_toArray, show (Ty.deep t).size = t.size from rfl]
    rw [List.getElem?_append_right (by omega), Nat.add_sub_cancel_left, List.getElem?_append_left hlt]
    exact h3
theorem row_view {h : Nat → Option Blk} (hh : HeapAt (cxOf base σ w ref) base h) {nm : Nat} {t : Ty} {xs : List t.den} {v : Value} (hnm : h nm = some (.row t xs)) (hd : Den (cxOf base σ w ref) (.row nm) v) : Reads w (fun b => b < w.heap.size) (.seq t) xs [v] := by
  obtain ⟨_, rfl, _⟩ := hd
  have key : ∀ (b : Nat) (o : Obj), w.heap[b]? = some o → b < w.heap.size := fun b o h => by
    rcases Nat.lt_or_ge b w.heap.size with h' | h'
    · exact h'
    · rw [Array.getElem?_eq_none h'] at h; simp at h
  rcases BlkDen.hdV (c := cxOf base σ w ref) (fun _ h => h.1) (hh.blk _ _ hnm) with ⟨⟨ad, hv⟩, rfl⟩ | ⟨b, cap, vs, rest, ty, pre, hv, _, hheap, hrow, hlen, hle, _⟩
  · exact ⟨ad, 0, by simpa [cxOf] using hv, Nat.le_refl _, .inl rfl⟩
  · refine ⟨some ⟨b, List.length pre, none⟩, cap, by simpa [cxOf] using hv, hle, .inr ⟨b, _, rfl, key _ _ hheap, fun i hi => ?_⟩⟩
    obtain ⟨us, h1, h2⟩ := hrow.2 i hi
    refine ⟨us, h1, fun j hj => ?_⟩
    have h3 := h2 j hj
    rw [List.getElem?_eq_getElem hj] at h3
    have hlt : i * t.size + j < vs.length := by
      rcases Nat.lt_or_ge (i * t.size + j) vs.length with h | h
      · exact h
      · rw [List.getElem?_eq_none h] at h3; simp at h3
    have hheap' : w.heap[b]? = some (.cells (List.toArray (pre ++ (vs ++ rest))) ty (0, 0)) := hheap
    simp only [World.cell?, hheap', Option.isSome_none, Bool.false_eq_true, if_false, Nat.add_assoc, List.getElem?_toArray]
    rw [List.getElem?_append_right (by omega), Nat.add_sub_cancel_left, List.getElem?_append_left hlt]
    exact h3
theorem inferC_reads {h : Nat → Option Blk} (hh : HeapAt (cxOf base σ w ref) base h) {d : TyD} {x : AV} {v : Value} (hi : inferC h x = some d) (hd : Den (cxOf base σ w ref) x v) : Reads w (fun b => b < w.heap.size) d.t d.x [v] := by
  cases x <;> simp only [inferC, Option.some.injEq, reduceCtorEq] at hi
  case int => subst hi; have hd := hd; simp only [Den] at hd; subst hd; rfl
  case bool => subst hi; have hd := hd; simp only [Den] at hd; subst hd; rfl
  case lit => subst hi; have hd := hd; simp only [Den] at hd; subst hd; rfl
  case str => subst hi; have hd := hd; simp only [Den] at hd; subst hd; rfl
  case view => subst hi; exact Reads.mono (fun _ h => h.1) (fun _ _ _ => rfl) hd
  case row nm =>
    split at hi
    · rename_i t xs hnm
      simp only [Option.some.injEq] at hi
      subst hi
      exact row_view hh hnm hd
    · simp at hi
theorem inferL_reads {h : Nat → Option Blk} (hh : HeapAt (cxOf base σ w ref) base h) : ∀ {cs : List AV} {d : TyD} {vs : List Value}, inferL h cs = some d → DenL (cxOf base σ w ref) cs vs → Reads w (fun b => b < w.heap.size) d.t d.x vs
  | [], d, vs, hi, hd => by simp [inferL] at hi
  | [x], d, vs, hi, hd => by
    obtain ⟨v, vs', rfl, h1, h2⟩ := hd
    have h2 : vs' = [] := h2
    subst h2
    exact inferC_reads hh (by simpa only [inferL] using hi) h1
  | x :: y :: l, d, vs, hi, hd => by
    simp only [inferL] at hi
    split at hi
    · rename_i a b ha hb
      simp only [Option.some.injEq] at hi
      subst hi
      obtain ⟨v, vs', rfl, h1, h2⟩ := hd
      exact ⟨[v], vs', rfl, inferC_reads hh ha h1, inferL_reads hh hb h2⟩
    · simp at hi
theorem Reads.part {w : World} {ok : Nat → Prop} {t : Ty} {xs : List t.den} {b o N cap n cap' off : Nat} {ad : Option Addr} (h : Reads w ok (.seq t) xs [.slice (some ⟨b, o, none⟩) N cap]) (h1 : cap' + off = cap) (h2 : off + n ≤ N) (h3 : n = 0 ∨ ad = some ⟨b, o + off * t.size, none⟩) :
    Reads w ok (.seq t) ((xs.drop off).take n) [.slice ad n cap'] := by
  obtain ⟨a0, cap0, e, hle, hc⟩ := h
  simp only [List.cons.injEq, Value.slice.injEq, and_true] at e
  obtain ⟨rfl, rfl, rfl⟩ := e
  have hl : ((xs.drop off).take n).length = n := by simp; omega
  refine ⟨ad, cap', by rw [hl], by omega, ?_⟩
  rcases Nat.eq_zero_or_pos n with h0 | h0
  · left; subst h0; simp
  · rcases hc with rfl | ⟨b', o', e, hb, hel⟩
    · simp at h2; omega
    · simp only [Option.some.injEq, Addr.mk.injEq, and_true] at e
      obtain ⟨rfl, rfl⟩ := e
      refine .inr ⟨b, o + off * t.size, h3.resolve_left (by omega), hb, fun i hi => ?_⟩
      obtain ⟨us, k1, k2⟩ := hel (off + i) (by omega)
      refine ⟨us, ?_, ?_⟩
      · have : ((xs.drop off).take n)[i]'hi = xs[off + i]'(by omega) := by simp
        rw [this]; exact k1
      · rw [Nat.add_mul, ← Nat.add_assoc] at k2; exact k2
theorem viewOf_den {c : Cx} : ∀ {t : Ty} {xs : List t.den} {v : Value}, Reads c.w c.ok (.seq t) xs [v] → Den c (viewOf t xs) v
  | .deep _, _, _, h => h
  | .int _, _, _, h => h
  | .bool, _, _, h => h
  | .str, _, _, h => h
  | .pair _ _, _, _, h => h
  | .seq _, _, _, h => h
mutual
theorem Den.arg {h : Nat → Option Blk} (hh : HeapAt (cxOf base σ w ref) base h) : ∀ {x : AV} {v : Value}, Den (cxOf base σ w ref) x v → Den (pureCx w) (asArg h x) v
  | .int _ _, _, hd => hd
  | .bool _, _, hd => hd
  | .lit _, _, hd => hd
  | .str _, _, hd => hd
  | .undef, _, hd => hd
  | .unk, _, hd => hd
  | .fn _, _, hd => hd
  | .ptr nm off, v, hd => by
    simp only [asArg]
    cases ho : Nat.beq off 0 with
    | false => trivial
    | true =>
      have ho : off = 0 := Nat.eq_of_beq_eq_true ho
      subst ho
      simp only [cond_true]
      split
      · rename_i cs hnm
        split
        · rename_i d hinf
          obtain ⟨_, b, hb, rfl⟩ := hd
          obtain ⟨b', vs, ty, hv, _, hheap, hds⟩ := hh.blk _ _ hnm
          rw [hb] at hv
          simp only [Value.pointer.injEq, Option.some.injEq, Addr.mk.injEq, and_true] at hv
          subst hv
          have hheap' : w.heap[b]? = some (.cells (List.toArray vs) ty (0, 0)) := hheap
          have hlt : b < w.heap.size := by
            rcases Nat.lt_or_ge b w.heap.size with h' | h'
            · exact h'
            · rw [Array.getElem?_eq_none h'] at hheap'; simp at hheap'
          have hrd := inferL_reads hh hinf hds
          refine ⟨b, 0, vs, rfl, ⟨hlt, trivial⟩, Reads.mono (fun _ h => ⟨h, trivial⟩) (fun _ _ _ => rfl) hrd, fun j hj => ?_⟩
          simp only [List.drop_zero] at hj ⊢
          simp [pureCx, World.cell?, hheap', hj]
        · trivial
      · trivial
  | .elt _ _ _ _, _, _ => trivial
  | .inr _ _, _, _ => trivial
  | .part sz nm off n, v, hd => by
    simp only [asArg]
    split
    · rename_i t xs hnm
      cases hb : Nat.beq sz t.size with
      | false => trivial
      | true =>
        have hs : sz = t.size := Nat.eq_of_beq_eq_true hb
        subst hs
        obtain ⟨h0, b, o, N, cap, ad, cap', hv, rfl, h1, h2, h3⟩ := hd
        have hr : Den (pureCx w) (.view t xs) (headV ((cxOf base σ w ref).ref nm)) := Reads.mono (fun _ h => ⟨h, trivial⟩) (fun _ _ _ => rfl) (row_view hh hnm (v := headV ((cxOf base σ w ref).ref nm)) ⟨h0, rfl, _, _, _, hv⟩)
        rw [hv] at hr
        exact Reads.part hr h1 h2 h3
    · trivial
  | .velt t x off, _, hd => by
    obtain ⟨b, o, us, h1, h2, h3, h4⟩ := hd
    exact ⟨b, o, us, h1, ⟨h2.1, trivial⟩, Reads.mono (fun _ h => ⟨h.1, trivial⟩) (fun _ _ _ => rfl) h3, h4⟩
  | .tup _, _, _ => trivial
  | .own _ _, _, _ => trivial
  | .nilS, _, hd => hd
  | .empS, _, hd => hd
  | .guess _, _, hd => hd
  | .clo f cs, _, hd => by
    obtain ⟨vs, h1, h2⟩ := hd
    exact ⟨vs, h1, DenL.arg hh h2⟩
  | .view t xs, _, hd => Reads.mono (fun _ h => ⟨h.1, trivial⟩) (fun _ _ _ => rfl) hd
  | .agg cs, _, hd => by
    obtain ⟨vs, h1, h2⟩ := hd
    exact ⟨vs, h1, DenL.arg hh h2⟩
  | .row nm, v, hd => by
    simp only [asArg]
    split
    · rename_i t xs hnm
      exact viewOf_den (c := pureCx w) (Reads.mono (fun _ h => ⟨h, trivial⟩) (fun _ _ _ => rfl) (row_view hh hnm hd))
    · trivial
theorem DenL.arg {h : Nat → Option Blk} (hh : HeapAt (cxOf base σ w ref) base h) : ∀ {xs : List AV} {vs : List Value}, DenL (cxOf base σ w ref) xs vs → DenL (pureCx w) (asArg.asArgL h xs) vs
  | [], _, hd => hd
  | x :: xs, _, hd => by
    obtain ⟨v, vs', rfl, h1, h2⟩ := hd
    exact ⟨v, vs', rfl, Den.arg hh h1, DenL.arg hh h2⟩
end
theorem Den.arg1 {h : Nat → Option Blk} (hh : HeapAt (cxOf base σ w ref) base h) {x : AV} {v : Value} (hi : ∀ sz nm i off t xs, x = .elt sz nm i off → h nm = some (.row t xs) → i < xs.length) (hd : Den (cxOf base σ w ref) x v) : Den (pureCx w) (asArg1 h x) v := by
  cases x
  case elt sz nm i off =>
    simp only [asArg1]
    split
    · rename_i t xs hnm
      cases hb : Nat.beq sz t.size with
      | false => trivial
      | true =>
        have hsz : sz = t.size := Nat.eq_of_beq_eq_true hb
        subst hsz
        simp only [cond_true]
        have hlt := hi _ _ _ _ _ _ rfl hnm
        obtain ⟨_, b, o, n, cap, hb, rfl⟩ := hd
        rcases BlkDen.hdV (c := cxOf base σ w ref) (fun _ h => h.1) (hh.blk _ _ hnm) with ⟨_, rfl⟩ | ⟨b', cap', vs, rest, ty, pre, hv, _, hheap, hrow, hlen, hle, hpos⟩
        · simp at hlt
        · have hb0 : headV (ref nm) = .slice (some ⟨b, o, none⟩) n cap := hb
          have hv' : headV (ref nm) = .slice (some ⟨b', List.length pre, none⟩) xs.length cap' := hv
          rw [hb0] at hv'
          simp only [Value.slice.injEq, Option.some.injEq, Addr.mk.injEq, and_true] at hv'
          obtain ⟨⟨rfl, rfl⟩, rfl, rfl⟩ := hv'
          obtain ⟨us, g1, g2⟩ := hrow.2 i hlt
          have hl := g1.length
          have hheap' : w.heap[b]? = some (.cells (List.toArray (pre ++ (vs ++ rest))) ty (0, 0)) := hheap
          have hbs : b < w.heap.size := by
            rcases Nat.lt_or_ge b w.heap.size with h' | h'
            · exact h'
            · rw [Array.getElem?_eq_none h'] at hheap'; simp at hheap'
          refine ⟨b, List.length pre + (i * t.size + off), us, rfl, ⟨hbs, trivial⟩, ?_, fun j hj => ?_⟩
          · have e : xs.getD i t.zero = xs[i] := by simp [List.getD, hlt]
            rw [e]
            exact Reads.mono (fun _ h => ⟨h, trivial⟩) (fun _ _ _ => rfl) g1
          · simp only [List.length_drop] at hj
            have g := g2 (off + j) (by omega)
            have hin : i * t.size + t.size ≤ vs.length := by
              rw [hrow.1, ← Nat.succ_mul]; exact Nat.mul_le_mul_right _ hlt
            simp only [pureCx, World.cell?, hheap', Option.isSome_none, Bool.false_eq_true, if_false, List.getElem_drop, List.getElem?_toArray]
            rw [show List.length pre + (i * t.size + off) + j = List.length pre + (i * t.size + (off + j)) by omega, List.getElem?_append_right (by omega), Nat.add_sub_cancel_left, List.getElem?_append_left (by omega), g]
            exact List.getElem?_eq_getElem _
    · trivial
  all_goals exact Den.arg hh hd
theorem DenL.arg1 {h : Nat → Option Blk} (hh : HeapAt (cxOf base σ w ref) base h) {p : Nd} : ∀ {xs : List AV} {vs : List Value}, (eltNd h xs p).ok → DenL (cxOf base σ w ref) xs vs → DenL (pureCx w) (xs.map (asArg1 h)) vs ∧ p.ok
  | [], _, hp, hd => ⟨hd, hp⟩
  | x :: xs, _, hp, hd => by
    obtain ⟨v, vs', rfl, h1, h2⟩ := hd
    have key : (∀ sz nm i off t ys, x = .elt sz nm i off → h nm = some (.row t ys) → i < ys.length) ∧ (eltNd h xs p).ok := by
      cases x <;> first | exact ⟨fun _ _ _ _ _ _ e => by simp at e, hp⟩ | skip
      rename_i sz nm i off
      simp only [eltNd] at hp
      split at hp
      · rename_i t ys hnm
        replace hp : i < ys.length ∧ (eltNd h xs p).ok := by
          cases hq : eltNd h xs p with
          | tt => rw [hq] at hp; exact ⟨hp, trivial⟩
          | p q => rw [hq] at hp; exact hp
        refine ⟨fun sz' nm' i' off' t' ys' e e2 => ?_, hp.2⟩
        simp only [AV.elt.injEq] at e
        obtain ⟨rfl, rfl, rfl, rfl⟩ := e
        rw [hnm] at e2
        simp only [Option.some.injEq, Blk.row.injEq] at e2
        obtain ⟨rfl, e2⟩ := e2
        simp only [heq_eq_eq] at e2
        subst e2
        exact hp.1
      · rename_i hno
        refine ⟨fun sz' nm' i' off' t' ys' e e2 => ?_, hp⟩
        simp only [AV.elt.injEq] at e
        obtain ⟨rfl, rfl, rfl, rfl⟩ := e
        exact absurd e2 (hno _ _)
    obtain ⟨a1, a2⟩ := DenL.arg1 hh key.2 h2
    exact ⟨⟨v, vs', rfl, Den.arg1 hh key.1 h1, a1⟩, a2⟩
mutual
/-- A value without names: its blocks are such as may be seen. -/
theorem Den.argN {h : Nat → Option Blk} : ∀ {x : AV} {v : Value}, x.names = [] → Den (cxOf base σ w ref) x v → Den (pureCx w (cxOf base σ w ref).ok) (asArg h x) v
  | .int _ _, _, _, hd => hd
  | .bool _, _, _, hd => hd
  | .lit _, _, _, hd => hd
  | .str _, _, _, hd => hd
  | .undef, _, _, hd => hd
  | .unk, _, _, hd => hd
  | .fn _, _, _, hd => hd
  | .ptr nm off, v, hn, _ => by simp [AV.names] at hn
  | .elt _ _ _ _, _, hn, _ => by simp [AV.names] at hn
  | .part _ _ _ _, _, hn, _ => by simp [AV.names] at hn
  | .inr _ _, _, hn, _ => by simp [AV.names] at hn
  | .row _, _, hn, _ => by simp [AV.names] at hn
  | .velt t x off, _, _, hd => by
    obtain ⟨b, o, us, h1, h2, h3, h4⟩ := hd
    exact ⟨b, o, us, h1, ⟨h2.1, h2⟩, Reads.mono (fun _ h => ⟨h.1, h⟩) (fun _ _ _ => rfl) h3, h4⟩
  | .tup _, _, _, _ => trivial
  | .own _ _, _, _, _ => trivial
  | .nilS, _, _, hd => hd
  | .empS, _, _, hd => hd
  | .guess _, _, _, hd => hd
  | .clo f cs, _, hn, hd => by
    obtain ⟨vs, h1, h2⟩ := hd
    exact ⟨vs, h1, DenL.argN hn h2⟩
  | .view t xs, _, _, hd => Reads.mono (fun _ h => ⟨h.1, h⟩) (fun _ _ _ => rfl) hd
  | .agg cs, _, hn, hd => by
    obtain ⟨vs, h1, h2⟩ := hd
    exact ⟨vs, h1, DenL.argN hn h2⟩
theorem DenL.argN {h : Nat → Option Blk} : ∀ {xs : List AV} {vs : List Value}, AV.names.namesL xs = [] → DenL (cxOf base σ w ref) xs vs → DenL (pureCx w (cxOf base σ w ref).ok) (asArg.asArgL h xs) vs
  | [], _, _, hd => hd
  | x :: xs, _, hn, hd => by
    simp only [AV.names.namesL, List.append_eq_nil_iff] at hn
    obtain ⟨v, vs', rfl, h1, h2⟩ := hd
    exact ⟨v, vs', rfl, Den.argN hn.1 h1, DenL.argN hn.2 h2⟩
end
theorem DenL.argN1 {h : Nat → Option Blk} : ∀ {xs : List AV} {vs : List Value}, AV.names.namesL xs = [] → DenL (cxOf base σ w ref) xs vs → DenL (pureCx w (cxOf base σ w ref).ok) (xs.map (asArg1 h)) vs
  | [], _, _, hd => hd
  | x :: xs, _, hn, hd => by
    simp only [AV.names.namesL, List.append_eq_nil_iff] at hn
    obtain ⟨v, vs', rfl, h1, h2⟩ := hd
    refine ⟨v, vs', rfl, ?_, DenL.argN1 hn.2 h2⟩
    cases x <;> first | exact Den.argN hn.1 h1 | (simp [AV.names] at hn)
theorem argL_map (h : Nat → Option Blk) : ∀ xs : List AV, asArg.asArgL h xs = xs.map (asArg h)
  | [] => rfl
  | x :: xs => by simp [asArg.asArgL, argL_map h xs]
theorem opVals_den {env : Nat → AV} (h : ∀ x, Den c (opVal env x) (a.eval x)) : ∀ l : List Operand, DenL c (l.map (opVal env)) (l.map a.eval)
  | [] => rfl
  | x :: l => ⟨_, _, rfl, h x, opVals_den h l⟩
theorem restrict_self {h : Nat → Option Blk} {ns : List Nat} {n : Nat} {B : Blk} (hr : restrict h ns n = some B) : h n = some B := by
  unfold restrict at hr
  cases hb : ns.any (Nat.beq n) <;> simp_all
theorem cellsOf_den {x : AV} {us : List AV} {v : Value} (h : cellsOf x = some us) (hd : Den c x v) : ∃ vs, v.cells.toList = vs ∧ DenL c us vs := by
  cases x <;> simp only [cellsOf, Option.some.injEq, reduceCtorEq] at h <;> subst h
  case agg cs =>
    obtain ⟨vs, rfl, h2⟩ := hd
    exact ⟨vs, by simp [Value.cells], h2⟩
  all_goals
    have h1 : Value.oneCell' v = true := hd.one rfl
    refine ⟨[v], ?_, v, [], rfl, hd, rfl⟩
    cases v <;> simp [Value.oneCell'] at h1 <;> rfl
theorem DenL.ones : ∀ {xs : List AV} {vs : List Value}, DenL c xs vs → xs.all AV.one = true → ∀ u ∈ vs, u.oneCell' = true
  | [], _, h, _ => by simp only [DenL] at h; subst h; simp
  | x :: xs, _, h, ha => by
    obtain ⟨v, vs', rfl, h1, h2⟩ := h
    simp only [List.all_cons, Bool.and_eq_true] at ha
    intro u hu
    rcases List.mem_cons.1 hu with rfl | hu
    · exact h1.one ha.1
    · exact DenL.ones h2 ha.2 u hu
theorem size_run {t : TypeId} {n : Nat} (h : sizeOfT P t = some n) : (sizeOf t).run P w = .ok n w := by
  simp only [sizeOfT, Option.map_eq_some_iff] at h
  obtain ⟨i, hi, rfl⟩ := h
  simp [sizeOf, typeInfo, hi]
theorem fold_splice {off : Nat} : ∀ (zs : List Value) (xs : List Value) (k : Nat), off + k + zs.length ≤ xs.length → (zs.zipIdx k).foldl (fun (cs : Array Value) (p : Value × Nat) => cs.setIfInBounds (off + p.2) p.1) xs.toArray = (xs.take (off + k) ++ zs ++ xs.drop (off + k + zs.length)).toArray
  | [], xs, k, _ => by simp
  | z :: zs, xs, k, h => by
    simp only [List.length_cons] at h
    have ih := fold_splice (off := off) zs (xs.set (off + k) z) (k + 1) (by simp; omega)
    simp only [List.zipIdx_cons, List.foldl_cons, List.setIfInBounds_toArray]
    rw [ih]
    congr 1
    rw [List.drop_set_of_lt (by omega), ← Nat.add_assoc, List.take_succ_eq_append_getElem (by simp; omega)]
    simp [List.take_set]
    rw [List.set_eq_of_length_le (by simp; omega), show off + k + 1 + zs.length = off + k + (zs.length + 1) by omega]
theorem fill_sound {place : Nat → Option (Nat × Nat)} : ∀ {parts : List (Nat × AV)} {cs us : List AV} {xs : List Value} {vals : List (Nat × Value)}, fillL place cs parts = some us → DenL c cs xs →
    (parts.map (·.1) = vals.map (·.1)) → DenL c (parts.map (·.2)) (vals.map (·.2)) → ∃ zs, Instr.fill place xs.toArray vals = some (List.toArray zs) ∧ DenL c us zs
  | [], cs, us, xs, vals, h, hd, hm, _ => by
    cases vals <;> simp at hm
    simp only [fillL, Option.some.injEq] at h
    subst h
    exact ⟨xs, rfl, hd⟩
  | (i, v) :: rest, cs, us, xs, vals, h, hd, hm, hv => by
    cases vals with
    | nil => simp at hm
    | cons p vals =>
      obtain ⟨j, z⟩ := p
      simp only [List.map_cons, List.cons.injEq] at hm hv
      obtain ⟨rfl, hm⟩ := hm
      obtain ⟨z', zs', hz', h1, h2⟩ := hv
      simp only [List.cons.injEq] at hz'
      obtain ⟨rfl, rfl⟩ := hz'
      simp only [fillL] at h
      split at h
      · rename_i off n ws hp hc
        cases hb : (Nat.beq ws.length n && Nat.ble (off + n) cs.length) <;> rw [hb] at h <;> simp only [cond_true, cond_false, reduceCtorEq] at h
        simp only [Bool.and_eq_true, Nat.ble_eq] at hb
        have hn : ws.length = n := by simpa using hb.1
        obtain ⟨zs, hz, hdz⟩ := cellsOf_den hc h1
        have hl := hd.length
        have hlz := hdz.length
        have hsz : z.cells.size = n := by rw [← Array.length_toList, hz, hlz, hn]
        have hstep : DenL c (Sx.splice cs off ws) (xs.take off ++ zs ++ xs.drop (off + zs.length)) := hd.splice hdz
        obtain ⟨ys, hy, hdy⟩ := fill_sound h hstep hm h2
        refine ⟨ys, ?_, hdy⟩
        simp only [Instr.fill, hp, hsz]
        rw [if_neg (by simp; omega)]
        rw [← hy]
        congr 1
        have := fold_splice (off := off) zs xs 0 (by omega)
        simp only [Nat.add_zero] at this
        rw [← this, ← hz]
        rw [← Array.foldl_toList, Array.toList_zipIdx]
      · simp at h
mutual
theorem Den.noView {c : Cx} {m : Nat} {ok : Nat → Prop} : ∀ {x : AV} {v : Value}, Sx.noView x = true → Den c (rowed m x) v → Den { c with ok } (rowed m x) v
  | .int _ _, _, _, h => h
  | .bool _, _, _, h => h
  | .lit _, _, _, h => h
  | .str _, _, _, h => h
  | .undef, _, _, h => h
  | .unk, _, _, h => h
  | .fn _, _, _, h => h
  | .nilS, _, _, h => h
  | .empS, _, _, h => h
  | .guess _, _, _, h => h
  | .own _ _, _, _, h => h
  | .clo f cs, _, hn, h => by
    obtain ⟨vs, h1, h2⟩ := h
    exact ⟨vs, h1, DenL.noView hn h2⟩
  | .agg cs, _, hn, h => by
    obtain ⟨vs, h1, h2⟩ := h
    exact ⟨vs, h1, DenL.noView hn h2⟩
  | .tup cs, _, hn, h => by
    obtain ⟨vs, h1, h2⟩ := h
    exact ⟨vs, h1, DenL.noView hn h2⟩
  | .ptr _ _, _, hn, _ => by simp [Sx.noView] at hn
  | .elt _ _ _ _, _, hn, _ => by simp [Sx.noView] at hn
  | .part _ _ _ _, _, hn, _ => by simp [Sx.noView] at hn
  | .inr _ _, _, hn, _ => by simp [Sx.noView] at hn
  | .row _, _, hn, _ => by simp [Sx.noView] at hn
  | .velt _ _ _, _, hn, _ => by simp [Sx.noView] at hn
  | .view _ _, _, hn, _ => by simp [Sx.noView] at hn
theorem DenL.noView {c : Cx} {m : Nat} {ok : Nat → Prop} : ∀ {xs : List AV} {vs : List Value}, Sx.noView.noViewL xs = true → DenL c (rowed.rowedL m xs) vs → DenL { c with ok } (rowed.rowedL m xs) vs
  | [], _, _, h => h
  | x :: xs, _, hn, h => by
    simp only [Sx.noView.noViewL, Bool.and_eq_true] at hn
    obtain ⟨v, vs', rfl, h1, h2⟩ := h
    exact ⟨v, vs', rfl, Den.noView hn.1 h1, DenL.noView hn.2 h2⟩
end
mutual
theorem noView_owns : ∀ {x : AV} {o : OwnD}, Sx.noView x = true → o ∈ ownsOf x → o.t.okR = true
  | .own t xs, o, hn, h => by simp only [ownsOf, List.mem_singleton] at h; subst h; exact hn
  | .agg cs, _, hn, h => noViewL_owns hn h
  | .tup cs, _, hn, h => noViewL_owns hn h
  | .clo _ cs, _, hn, h => noViewL_owns hn h
  | .int _ _, _, _, h => by simp [ownsOf] at h
  | .bool _, _, _, h => by simp [ownsOf] at h
  | .lit _, _, _, h => by simp [ownsOf] at h
  | .str _, _, _, h => by simp [ownsOf] at h
  | .undef, _, _, h => by simp [ownsOf] at h
  | .unk, _, _, h => by simp [ownsOf] at h
  | .fn _, _, _, h => by simp [ownsOf] at h
  | .nilS, _, _, h => by simp [ownsOf] at h
  | .empS, _, _, h => by simp [ownsOf] at h
  | .guess _, _, _, h => by simp [ownsOf] at h
  | .ptr _ _, _, _, h => by simp [ownsOf] at h
  | .elt _ _ _ _, _, _, h => by simp [ownsOf] at h
  | .part _ _ _ _, _, _, h => by simp [ownsOf] at h
  | .inr _ _, _, _, h => by simp [ownsOf] at h
  | .row _, _, _, h => by simp [ownsOf] at h
  | .velt _ _ _, _, _, h => by simp [ownsOf] at h
  | .view _ _, _, _, h => by simp [ownsOf] at h
theorem noViewL_owns : ∀ {xs : List AV} {o : OwnD}, Sx.noView.noViewL xs = true → o ∈ ownsOf.ownsL xs → o.t.okR = true
  | [], _, _, h => by simp [ownsOf.ownsL] at h
  | x :: xs, _, hn, h => by
    simp only [Sx.noView.noViewL, Bool.and_eq_true] at hn
    simp only [ownsOf.ownsL, List.mem_append] at h
    exact h.elim (noView_owns hn.1) (noViewL_owns hn.2)
end
mutual
/-- A value without names of its own, its one row renamed. -/
theorem Den.rename {c c' : Cx} {m d : Nat} (hd : c.dom m → c'.dom d) (hr : c'.ref d = c.ref m) (hok : ∀ b, c.ok b → c'.ok b) (hc : ∀ b o, c.ok b → c'.w.cell? ⟨b, o, none⟩ = c.w.cell? ⟨b, o, none⟩) :
    ∀ {x : AV} {v : Value}, x.names = [] → Den c (rowed m x) v → Den c' (rowed d x) v
  | .int _ _, _, _, h => h
  | .bool _, _, _, h => h
  | .lit _, _, _, h => h
  | .str _, _, _, h => h
  | .undef, _, _, h => h
  | .unk, _, _, h => h
  | .fn _, _, _, h => h
  | .nilS, _, _, h => h
  | .empS, _, _, h => h
  | .guess _, _, _, h => h
  | .clo f cs, _, hn, h => by
    obtain ⟨vs, h1, h2⟩ := h
    exact ⟨vs, h1, DenL.rename hd hr hok hc hn h2⟩
  | .ptr _ _, _, hn, _ => by simp [AV.names] at hn
  | .elt _ _ _ _, _, hn, _ => by simp [AV.names] at hn
  | .part _ _ _ _, _, hn, _ => by simp [AV.names] at hn
  | .inr _ _, _, hn, _ => by simp [AV.names] at hn
  | .row _, _, hn, _ => by simp [AV.names] at hn
  | .velt t x off, _, _, h => by
    obtain ⟨b, o, us, h1, h2, h3, h4⟩ := h
    exact ⟨b, o, us, h1, hok _ h2, h3.mono hok hc, fun j hj => (hc _ _ h2).trans (h4 j hj)⟩
  | .view t xs, _, _, h => Reads.mono hok hc h
  | .own t xs, _, _, h => ⟨hd h.1, h.2.1.trans (congrArg headV hr.symm), h.2.2⟩
  | .agg cs, _, hn, h => by
    obtain ⟨vs, h1, h2⟩ := h
    exact ⟨vs, h1, DenL.rename hd hr hok hc hn h2⟩
  | .tup cs, _, hn, h => by
    obtain ⟨vs, h1, h2⟩ := h
    exact ⟨vs, h1, DenL.rename hd hr hok hc hn h2⟩
theorem DenL.rename {c c' : Cx} {m d : Nat} (hd : c.dom m → c'.dom d) (hr : c'.ref d = c.ref m) (hok : ∀ b, c.ok b → c'.ok b) (hc : ∀ b o, c.ok b → c'.w.cell? ⟨b, o, none⟩ = c.w.cell? ⟨b, o, none⟩) :
    ∀ {xs : List AV} {vs : List Value}, AV.names.namesL xs = [] → DenL c (rowed.rowedL m xs) vs → DenL c' (rowed.rowedL d xs) vs
  | [], _, _, h => h
  | x :: xs, _, hn, h => by
    simp only [AV.names.namesL, List.append_eq_nil_iff] at hn
    obtain ⟨v, vs', rfl, h1, h2⟩ := h
    exact ⟨v, vs', rfl, Den.rename hd hr hok hc hn.1 h1, DenL.rename hd hr hok hc hn.2 h2⟩
end
mutual
/-- Without rows of its own nothing is renamed. -/
theorem rowed_none {m : Nat} : ∀ {x : AV}, ownsOf x = [] → rowed m x = x
  | .int _ _, _ => rfl
  | .bool _, _ => rfl
  | .lit _, _ => rfl
  | .str _, _ => rfl
  | .undef, _ => rfl
  | .unk, _ => rfl
  | .fn _, _ => rfl
  | .nilS, _ => rfl
  | .empS, _ => rfl
  | .guess _, _ => rfl
  | .clo f cs, h => by simp only [rowed, rowedL_none (show ownsOf.ownsL cs = [] from h)]
  | .ptr _ _, _ => rfl
  | .elt _ _ _ _, _ => rfl
  | .part _ _ _ _, _ => rfl
  | .inr _ _, _ => rfl
  | .row _, _ => rfl
  | .velt _ _ _, _ => rfl
  | .view _ _, _ => rfl
  | .own _ _, h => by simp [ownsOf] at h
  | .agg cs, h => by simp only [rowed, rowedL_none (show ownsOf.ownsL cs = [] from h)]
  | .tup cs, h => by simp only [rowed, rowedL_none (show ownsOf.ownsL cs = [] from h)]
theorem rowedL_none {m : Nat} : ∀ {xs : List AV}, ownsOf.ownsL xs = [] → rowed.rowedL m xs = xs
  | [], _ => rfl
  | x :: xs, h => by
    simp only [ownsOf.ownsL, List.append_eq_nil_iff] at h
    simp only [rowed.rowedL, rowed_none h.1, rowedL_none h.2]
end
/-! ### a row that is lent -/
mutual
theorem Den.lent {h : Nat → Option Blk} {u : Value} (hok : ∀ b, (cxOf base σ w ref).ok b → ¬ Owns u b) : ∀ {x : AV} {v : Value}, (∀ m ∈ x.names, u = ref m) → Den (cxOf base σ w ref) x v → Den (lentCx w u) (rowed BR (asOwn h x)) v
  | .int _ _, _, _, hd => hd
  | .bool _, _, _, hd => hd
  | .lit _, _, _, hd => hd
  | .str _, _, _, hd => hd
  | .undef, _, _, hd => hd
  | .unk, _, _, hd => hd
  | .fn _, _, _, hd => hd
  | .ptr _ _, _, _, _ => trivial
  | .elt _ _ _ _, _, _, _ => trivial
  | .part _ _ _ _, _, _, _ => trivial
  | .inr _ _, _, _, _ => trivial
  | .velt t x off, _, _, hd => by
    obtain ⟨b, o, us, h1, h2, h3, h4⟩ := hd
    exact ⟨b, o, us, h1, ⟨h2.1, hok b h2⟩, Reads.mono (fun b h => ⟨h.1, hok b h⟩) (fun _ _ _ => rfl) h3, h4⟩
  | .tup _, _, _, _ => trivial
  | .own _ _, _, _, _ => trivial
  | .nilS, _, _, hd => hd
  | .empS, _, _, hd => hd
  | .guess _, _, _, hd => hd
  | .view t xs, _, _, hd => Reads.mono (fun b h => ⟨h.1, hok b h⟩) (fun _ _ _ => rfl) hd
  | .clo f cs, _, hn, hd => by
    obtain ⟨vs, h1, h2⟩ := hd
    exact ⟨vs, h1, DenL.lent hok hn h2⟩
  | .agg cs, _, hn, hd => by
    obtain ⟨vs, h1, h2⟩ := hd
    exact ⟨vs, h1, DenL.lent hok hn h2⟩
  | .row m, v, hn, hd => by
    have hm : u = ref m := hn m (by simp [AV.names])
    simp only [asOwn]
    split
    · rename_i t xs hnm
      exact ⟨rfl, by rw [hd.2.1]; exact congrArg headV hm.symm, hd.2.2⟩
    · trivial
theorem DenL.lent {h : Nat → Option Blk} {u : Value} (hok : ∀ b, (cxOf base σ w ref).ok b → ¬ Owns u b) : ∀ {xs : List AV} {vs : List Value}, (∀ m ∈ AV.names.namesL xs, u = ref m) → DenL (cxOf base σ w ref) xs vs → DenL (lentCx w u) (rowed.rowedL BR (asOwn.asOwnL h xs)) vs
  | [], _, _, hd => hd
  | x :: xs, _, hn, hd => by
    obtain ⟨v, vs', rfl, h1, h2⟩ := hd
    exact ⟨v, vs', rfl, Den.lent hok (fun m hm => hn m (by simp [AV.names.namesL, hm])) h1, DenL.lent hok (fun m hm => hn m (by simp [AV.names.namesL, hm])) h2⟩
end
theorem asOwnL_map (h : Nat → Option Blk) : ∀ xs : List AV, asOwn.asOwnL h xs = xs.map (asOwn h)
  | [] => rfl
  | x :: xs => by simp [asOwn.asOwnL, asOwnL_map h xs]
mutual
theorem asOwn_names {h : Nat → Option Blk} : ∀ {x : AV}, (asOwn h x).names = []
  | .int _ _ => rfl
  | .bool _ => rfl
  | .lit _ => rfl
  | .str _ => rfl
  | .undef => rfl
  | .unk => rfl
  | .fn _ => rfl
  | .ptr _ _ => rfl
  | .elt _ _ _ _ => rfl
  | .part _ _ _ _ => rfl
  | .inr _ _ => rfl
  | .velt _ _ _ => rfl
  | .tup _ => rfl
  | .own _ _ => rfl
  | .nilS => rfl
  | .empS => rfl
  | .guess _ => rfl
  | .view _ _ => rfl
  | .clo f cs => asOwnL_names (xs := cs)
  | .agg cs => asOwnL_names (xs := cs)
  | .row m => by
    simp only [asOwn]
    split <;> rfl
theorem asOwnL_names {h : Nat → Option Blk} : ∀ {xs : List AV}, AV.names.namesL (asOwn.asOwnL h xs) = []
  | [] => rfl
  | x :: xs => by simp [asOwn.asOwnL, AV.names.namesL, asOwn_names (x := x), asOwnL_names (xs := xs)]
end
mutual
theorem asOwn_owns {h : Nat → Option Blk} : ∀ {x : AV}, (ownsOf (asOwn h x)).length ≤ x.names.length ∧ ∀ o ∈ ownsOf (asOwn h x), ∃ m ∈ x.names, h m = some (.row o.t o.xs)
  | .int _ _ => ⟨Nat.le_refl _, by simp [asOwn, ownsOf]⟩
  | .bool _ => ⟨Nat.le_refl _, by simp [asOwn, ownsOf]⟩
  | .lit _ => ⟨Nat.le_refl _, by simp [asOwn, ownsOf]⟩
  | .str _ => ⟨Nat.le_refl _, by simp [asOwn, ownsOf]⟩
  | .undef => ⟨Nat.le_refl _, by simp [asOwn, ownsOf]⟩
  | .unk => ⟨Nat.le_refl _, by simp [asOwn, ownsOf]⟩
  | .fn _ => ⟨Nat.le_refl _, by simp [asOwn, ownsOf]⟩
  | .ptr _ _ => ⟨by simp [asOwn, ownsOf], by simp [asOwn, ownsOf]⟩
  | .elt _ _ _ _ => ⟨by simp [asOwn, ownsOf], by simp [asOwn, ownsOf]⟩
  | .part _ _ _ _ => ⟨by simp [asOwn, ownsOf], by simp [asOwn, ownsOf]⟩
  | .inr _ _ => ⟨by simp [asOwn, ownsOf], by simp [asOwn, ownsOf]⟩
  | .velt _ _ _ => ⟨Nat.le_refl _, by simp [asOwn, ownsOf]⟩
  | .tup _ => ⟨by simp [asOwn, ownsOf], by simp [asOwn, ownsOf]⟩
  | .own _ _ => ⟨by simp [asOwn, ownsOf], by simp [asOwn, ownsOf]⟩
  | .nilS => ⟨Nat.le_refl _, by simp [asOwn, ownsOf]⟩
  | .empS => ⟨Nat.le_refl _, by simp [asOwn, ownsOf]⟩
  | .guess _ => ⟨Nat.le_refl _, by simp [asOwn, ownsOf]⟩
  | .view _ _ => ⟨Nat.le_refl _, by simp [asOwn, ownsOf]⟩
  | .clo f cs => asOwnL_owns (xs := cs)
  | .agg cs => asOwnL_owns (xs := cs)
  | .row m => by
    simp only [asOwn]
    split
    · rename_i t xs hm
      exact ⟨by simp [ownsOf, AV.names], fun o ho => by simp only [ownsOf, List.mem_singleton] at ho; subst ho; exact ⟨m, by simp [AV.names], hm⟩⟩
    · exact ⟨by simp [ownsOf], by simp [ownsOf]⟩
theorem asOwnL_owns {h : Nat → Option Blk} : ∀ {xs : List AV}, (ownsOf.ownsL (asOwn.asOwnL h xs)).length ≤ (AV.names.namesL xs).length ∧ ∀ o ∈ ownsOf.ownsL (asOwn.asOwnL h xs), ∃ m ∈ AV.names.namesL xs, h m = some (.row o.t o.xs)
  | [] => ⟨Nat.le_refl _, by simp [asOwn.asOwnL, ownsOf.ownsL]⟩
  | x :: xs => by
    obtain ⟨a1, a2⟩ := asOwn_owns (h := h) (x := x)
    obtain ⟨b1, b2⟩ := asOwnL_owns (h := h) (xs := xs)
    refine ⟨by simp only [asOwn.asOwnL, ownsOf.ownsL, AV.names.namesL, List.length_append]; omega, fun o ho => ?_⟩
    simp only [asOwn.asOwnL, ownsOf.ownsL, List.mem_append] at ho
    rcases ho with ho | ho
    · obtain ⟨m, hm, he⟩ := a2 o ho
      exact ⟨m, by simp [AV.names.namesL, hm], he⟩
    · obtain ⟨m, hm, he⟩ := b2 o ho
      exact ⟨m, by simp [AV.names.namesL, hm], he⟩
end
end
end Sx
end Go.Proofs.Ytemlpimibhijoaa
