/- The evaluator is sound: slice literals, append. Conditions: as each says. -/
import Derived.Test.YtemlpimibhijoaaSxF
import Derived.Laws.AppendOwn
set_option linter.unusedSimpArgs false
set_option linter.unusedVariables false
namespace Go.Proofs.Ytemlpimibhijoaa
open Go.RowKit
namespace Sx
section
variable {P : Program} {base : Base} {w0 w w' : World} {σ σ' : St} {a : Act} {ref : Nat → Value} {c c' : Cx}
theorem DenL.split : ∀ {xs ys : List AV} {vs : List Value}, DenL c (xs ++ ys) vs → ∃ v1 v2, vs = v1 ++ v2 ∧ DenL c xs v1 ∧ DenL c ys v2
  | [], ys, vs, h => ⟨[], vs, rfl, rfl, h⟩
  | x :: xs, ys, vs, h => by
    obtain ⟨v, vs', rfl, h1, h2⟩ := h
    obtain ⟨v1, v2, rfl, g1, g2⟩ := DenL.split h2
    exact ⟨v :: v1, v2, rfl, ⟨v, v1, rfl, h1, g1⟩, g2⟩
theorem den_reads : ∀ {t : Ty} {x : t.den} {vs : List Value}, DenL c (enc t x) vs → Reads c.w c.ok t x vs
  | .int _, _, _, h => by obtain ⟨v, vs', rfl, h1, h2⟩ := h; simp only [DenL] at h2; subst h2; simp only [Den] at h1; subst h1; rfl
  | .bool, _, _, h => by obtain ⟨v, vs', rfl, h1, h2⟩ := h; simp only [DenL] at h2; subst h2; simp only [Den] at h1; subst h1; rfl
  | .str, _, _, h => by obtain ⟨v, vs', rfl, h1, h2⟩ := h; simp only [DenL] at h2; subst h2; simp only [Den] at h1; subst h1; rfl
  | .pair _ _, x, _, h => by
    obtain ⟨v1, v2, rfl, h1, h2⟩ := DenL.split h
    exact ⟨v1, v2, rfl, den_reads h1, den_reads h2⟩
  | .seq _, _, _, h => by obtain ⟨v, vs', rfl, h1, h2⟩ := h; simp only [DenL] at h2; subst h2; exact h1
  | .deep t, _, _, h => den_reads (t := t) h
theorem RowAt.nil {ok : Nat → Prop} {t : Ty} : RowAt w ok t [] [] := ⟨by simp, fun i hi => by simp at hi⟩
theorem RowAt.append {ok : Nat → Prop} {t : Ty} {xs ys : List t.den} {vs us : List Value} (h : RowAt w ok t xs vs) (h' : RowAt w ok t ys us) : RowAt w ok t (xs ++ ys) (vs ++ us) := by
  obtain ⟨l1, e1⟩ := h
  obtain ⟨l2, e2⟩ := h'
  refine ⟨by simp [l1, l2, Nat.add_mul], fun i hi => ?_⟩
  simp only [List.length_append] at hi
  by_cases hlt : i < xs.length
  · obtain ⟨us', g1, g2⟩ := e1 i hlt
    have hsz := g1.length
    refine ⟨us', by rw [List.getElem_append_left hlt]; exact g1, fun j hj => ?_⟩
    rw [List.getElem?_append_left, g2 j hj]
    rw [l1]
    have : i * t.size + t.size ≤ xs.length * t.size := by rw [← Nat.succ_mul]; exact Nat.mul_le_mul_right _ hlt
    omega
  · obtain ⟨us', g1, g2⟩ := e2 (i - xs.length) (by omega)
    refine ⟨us', by rw [List.getElem_append_right (by omega)]; exact g1, fun j hj => ?_⟩
    have hm : xs.length * t.size + (i - xs.length) * t.size = i * t.size := by rw [← Nat.add_mul]; congr 1; omega
    rw [List.getElem?_append_right (by rw [l1]; omega), ← g2 j hj, l1]
    congr 1
    omega
theorem RowAt.single {t : Ty} {x : t.den} {vs : List Value} (h : Reads c.w c.ok t x vs) : RowAt c.w c.ok t [x] vs :=
  ⟨by simp [h.length], fun i hi => by
    have : i = 0 := by simpa using hi
    subst this
    exact ⟨vs, h, fun j _ => by simp⟩⟩
theorem decRow_den {ty : Ty} : ∀ {vs : List AV} {xs : List ty.den} {rs : List Value}, decRow ty vs = some xs → DenL c vs rs → RowAt c.w c.ok ty xs (rs.flatMap fun r => r.cells.toList) ∧ ∀ r ∈ rs, r.cells.size = ty.size
  | [], xs, rs, h, hd => by
    simp only [decRow, Option.some.injEq] at h
    simp only [DenL] at hd
    subst h hd
    exact ⟨RowAt.nil, by simp⟩
  | v :: vs, xs, rs, h, hd => by
    simp only [decRow] at h
    split at h
    · rename_i x xs' h1 h2
      simp only [Option.some.injEq] at h
      subst h
      obtain ⟨r, rs', rfl, g1, g2⟩ := hd
      obtain ⟨i1, i2⟩ := decRow_den h2 g2
      unfold decCells at h1
      split at h1
      · rename_i cs hcs
        cases hb : Nat.beq cs.length ty.size <;> rw [hb] at h1 <;> simp only [cond_true, cond_false, reduceCtorEq] at h1
        have hlen : cs.length = ty.size := by simpa using hb
        obtain ⟨zs, hz, hdz⟩ := cellsOf_den hcs g1
        have hsz : r.cells.size = ty.size := by rw [← Array.length_toList, hz, hdz.length, hlen]
        refine ⟨?_, fun r' hr' => ?_⟩
        · have := (RowAt.single (den_reads (decT_den h1 hdz))).append i1
          simpa [hz] using this
        · rcases List.mem_cons.1 hr' with rfl | hr'
          · exact hsz
          · exact i2 r' hr'
      · simp at h1
    · simp at h
theorem fill_row {size : Nat} : ∀ (rs : List Value) (k : Nat) (pre rest : List Value), pre.length = k * size → (∀ r ∈ rs, r.cells.size = size) → rest.length = rs.length * size →
    Instr.fill (fun i => some (i * size, size)) (pre ++ rest).toArray ((List.range' k rs.length).zip rs) = some (pre ++ rs.flatMap fun r => r.cells.toList).toArray
  | [], k, pre, rest, _, _, hr => by
    have : rest = [] := List.eq_nil_of_length_eq_zero (by simpa using hr)
    subst this
    simp [Instr.fill]
  | r :: rs, k, pre, rest, hp, hs, hr => by
    have hsz := hs r (by simp)
    have hcl : r.cells.toList.length = size := by simpa using hsz
    simp only [List.length_cons, Nat.succ_mul] at hr
    simp only [List.length_cons, List.range'_succ, List.zip_cons_cons, Instr.fill, hsz]
    rw [if_neg (by simp; omega)]
    have hfold := fold_splice (off := k * size) r.cells.toList (pre ++ rest) 0 (by simp; omega)
    simp only [Nat.add_zero] at hfold
    rw [← Array.foldl_toList, Array.toList_zipIdx, hfold, hcl]
    have e1 : (pre ++ rest).take (k * size) = pre := by rw [← hp]; simp
    have e2 : (pre ++ rest).drop (k * size + size) = rest.drop size := by rw [← hp, List.drop_append]; simp
    rw [e1, e2]
    have := fill_row rs (k + 1) (pre ++ r.cells.toList) (rest.drop size) (by simp [hcl, hp, Nat.succ_mul]) (fun r' h' => hs r' (by simp [h'])) (by simp; omega)
    rw [this]
    simp
theorem isRange_eq : ∀ {n : Nat} {l : List Nat}, isRange n l = true → l = List.range' n l.length
  | _, [], _ => rfl
  | n, k :: ks, h => by
    simp only [isRange, Bool.and_eq_true] at h
    have hk : k = n := Nat.eq_of_beq_eq_true h.1
    subst hk
    rw [List.length_cons, List.range'_succ]
    exact congrArg _ (isRange_eq h.2)
theorem cx_take {nm d : Nat} {B B' : Blk} {u : Value} (hn : σ.heap nm = some B) (hl : B.live = true) (hd : σ.heap d = none) (hσ : ∀ n, σ'.heap n = if n = d then some B' else if n = nm then some .dead else σ.heap n)
    (hs : w.heap.size ≤ w'.heap.size) (hb : ∀ b, b < w.heap.size → ¬ Owns (ref nm) b → w'.heap[b]? = w.heap[b]?) (hu : ∀ b, Owns u b → Owns (ref nm) b ∨ w.heap.size ≤ b) :
    (cxOf base σ w ref).le (cxOf base σ' w' (fun n => if n = d then u else ref n)) := by
  have hne : ∀ n B', σ.heap n = some B' → n ≠ d := by rintro n B' h rfl; rw [hd] at h; simp at h
  refine ⟨fun n ⟨B1, h⟩ => ?_, fun n ⟨B1, h⟩ => by simp [cxOf, hne n B1 h], fun b h => ⟨Nat.lt_of_lt_of_le h.1 hs, h.2.1, fun n B1 hB hlv => ?_⟩, fun b o h => cell_of_block (hb b h.1 (h.2.2 nm B hn hl))⟩
  · by_cases he : n = nm
    · exact ⟨.dead, by rw [hσ, if_neg (hne n B1 h), if_pos he]⟩
    · exact ⟨B1, by rw [hσ, if_neg (hne n B1 h), if_neg he]; exact h⟩
  · rw [hσ] at hB
    split at hB
    · rename_i he
      subst he
      simp only [if_true]
      intro hb'
      rcases hu b hb' with h' | h'
      · exact h.2.2 nm B hn hl h'
      · have := h.1; omega
    · rename_i he
      simp only [if_neg he]
      split at hB
      · simp only [Option.some.injEq] at hB; subst hB; simp [Blk.live] at hlv
      · exact h.2.2 n B1 hB hlv
/-- A row goes over to a new name; what was its block may have been written, or it lies in a new one. -/
theorem RepAt.take {nm d : Nat} {B B' : Blk} {u : Value} (h : RepAt base σ a w ref) (hn : σ.heap nm = some B) (hl : B.live = true) (hbr : d ≠ BR) (hd : σ.heap d = none) (hσ : ∀ n, σ'.heap n = if n = d then some B' else if n = nm then some .dead else σ.heap n) (henv : σ'.env = σ.env) (hnt : σ'.nt = σ.nt)
    (hs : w.heap.size ≤ w'.heap.size) (hb : ∀ b, b < w.heap.size → ¬ Owns (ref nm) b → w'.heap[b]? = w.heap[b]?) (hu : ∀ b, Owns u b → Owns (ref nm) b ∨ w.heap.size ≤ b)
    (hB : (cxOf base σ w ref).le (cxOf base σ' w' (fun n => if n = d then u else ref n)) → BlkDen (cxOf base σ' w' (fun n => if n = d then u else ref n)) base u B') :
    RepAt base σ' a w' (fun n => if n = d then u else ref n) := by
  have hle := cx_take (base := base) hn hl hd hσ hs hb hu
  have lt : ∀ n B1 b, σ.heap n = some B1 → B1.live = true → Owns (ref n) b → b < w.heap.size := fun n B1 b h1 l1 hb' => ((h.blk n B1 h1).lt l1 hb').2
  have key : ∀ n B1, n ≠ d → σ'.heap n = some B1 → B1.live = true → n ≠ nm ∧ σ.heap n = some B1 := fun n B1 he h1 l1 => by
    rw [hσ, if_neg he] at h1
    split at h1
    · simp only [Option.some.injEq] at h1; subst h1; simp [Blk.live] at l1
    · rename_i he'; exact ⟨he', h1⟩
  refine ⟨by rw [hnt]; exact h.size, fun k => by rw [henv]; exact (h.env k).mono hle, fun n B1 h1 => ?_, fun n m B1 B2 b h1 l1 h2 l2 e1 e2 => ?_, by rw [hnt]; exact h.le, fun u' hu' hx => ?_⟩
  · by_cases he : n = d
    · subst he
      rw [hσ, if_pos rfl] at h1
      simp only [Option.some.injEq] at h1
      subst h1
      simpa using hB hle
    · simp only [if_neg he]
      cases l1 : B1.live with
      | true =>
        obtain ⟨hnm, h1'⟩ := key n B1 he h1 l1
        exact (h.blk n B1 h1').mono hle fun b hb' => hb b (lt n B1 b h1' l1 hb') (fun hx => hnm (h.inj n nm B1 B b h1' l1 hn hl hb' hx))
      | false => cases B1 <;> simp [Blk.live] at l1; trivial
  · by_cases f1 : n = d <;> by_cases f2 : m = d
    · rw [f1, f2]
    · exfalso
      simp only [if_pos f1] at e1
      simp only [if_neg f2] at e2
      obtain ⟨hm, h2'⟩ := key m B2 f2 h2 l2
      rcases hu b e1 with h' | h'
      · exact hm (h.inj m nm B2 B b h2' l2 hn hl e2 h')
      · have := lt m B2 b h2' l2 e2; omega
    · exfalso
      simp only [if_neg f1] at e1
      simp only [if_pos f2] at e2
      obtain ⟨hm, h1'⟩ := key n B1 f1 h1 l1
      rcases hu b e2 with h' | h'
      · exact hm (h.inj n nm B1 B b h1' l1 hn hl e1 h')
      · have := lt n B1 b h1' l1 e1; omega
    · simp only [if_neg f1] at e1
      simp only [if_neg f2] at e2
      obtain ⟨_, h1'⟩ := key n B1 f1 h1 l1
      obtain ⟨_, h2'⟩ := key m B2 f2 h2 l2
      exact h.inj n m B1 B2 b h1' l1 h2' l2 e1 e2
  · simp only [if_neg (Ne.symm hbr)]
    refine h.lent u' hu' fun hy => hx ?_
    rw [hσ, if_neg (Ne.symm hbr)]
    split
    · rename_i he; rw [he, hn] at hy; simp at hy
    · exact hy
/-- The cells of what is appended. -/
theorem RowAt.takeN {ok : Nat → Prop} {t : Ty} {xs : List t.den} {vs : List Value} (h : RowAt w ok t xs vs) (n : Nat) (hn : n ≤ xs.length) : RowAt w ok t (xs.take n) (vs.take (n * t.size)) := by
  obtain ⟨h1, h2⟩ := h
  have hm : n * t.size ≤ xs.length * t.size := Nat.mul_le_mul_right _ hn
  refine ⟨by simp only [List.length_take, h1]; rw [Nat.min_eq_left hn, Nat.min_eq_left hm], fun i hi => ?_⟩
  simp only [List.length_take] at hi
  obtain ⟨us, g1, g2⟩ := h2 i (by omega)
  refine ⟨us, by rw [List.getElem_take]; exact g1, fun j hj => ?_⟩
  have hsz := g1.length
  have : i * t.size + t.size ≤ n * t.size := by rw [← Nat.succ_mul]; exact Nat.mul_le_mul_right _ (by omega)
  rw [List.getElem?_take_of_lt (by omega)]
  exact g2 j hj
theorem RowAt.dropN {ok : Nat → Prop} {t : Ty} {xs : List t.den} {vs : List Value} (h : RowAt w ok t xs vs) (n : Nat) (hn : n ≤ xs.length) : RowAt w ok t (xs.drop n) (vs.drop (n * t.size)) := by
  obtain ⟨h1, h2⟩ := h
  refine ⟨by simp [h1, Nat.sub_mul], fun i hi => ?_⟩
  simp only [List.length_drop] at hi
  obtain ⟨us, g1, g2⟩ := h2 (n + i) (by omega)
  refine ⟨us, by rw [List.getElem_drop]; exact g1, fun j hj => ?_⟩
  rw [List.getElem?_drop, ← g2 j hj, Nat.add_mul]
  congr 1
  omega
theorem src_cells {h : Nat → Option Blk} {ty : Ty} {y : AV} {ys : List ty.den} {u : Value} (hh : HeapP c base h) (hs : srcRow h ty y = some ys) (hd : Den c y u) :
    ∃ ad cap us, u = .slice ad ys.length cap ∧ RowAt c.w c.ok ty ys us ∧ (us = [] ∨ ∃ b o, ad = some ⟨b, o, none⟩ ∧ ∀ j r, us[j]? = some r → c.w.cell? ⟨b, o + j, none⟩ = some r) := by
  unfold srcRow at hs
  split at hs
  · rename_i nm
    split at hs
    · rename_i t xs hnm
      split at hs
      · rename_i he
        subst he
        simp only [Option.some.injEq] at hs
        subst hs
        obtain ⟨_, rfl, _⟩ := hd
        rcases (hh.blk _ _ hnm).hd (hh.plain _ _ _ hnm) with ⟨⟨ad, hv⟩, rfl⟩ | ⟨b, cap, vs, rest, tyy, pre, hv, _, hheap, hrow, hlen, hle⟩
        · exact ⟨ad, 0, [], hv, RowAt.nil, .inl rfl⟩
        · refine ⟨_, cap, vs, hv, hrow, .inr ⟨b, _, rfl, fun j r hj => ?_⟩⟩
          have hjl : j < vs.length := by
            rcases Nat.lt_or_ge j vs.length with h | h
            · exact h
            · rw [List.getElem?_eq_none h] at hj; simp at hj
          simp only [World.cell?, hheap, Option.isSome_none, Bool.false_eq_true, if_false, List.getElem?_toArray]
          rw [List.getElem?_append_right (by omega), Nat.add_sub_cancel_left, List.getElem?_append_left hjl]; exact hj
      · simp at hs
    · simp at hs
  · rename_i t xs
    split at hs
    · rename_i he
      subst he
      simp only [Option.some.injEq] at hs
      subst hs
      obtain ⟨ad, cap, hv, hcap, hrest⟩ := hd
      simp only [List.cons.injEq, and_true] at hv
      subst hv
      rcases hrest with hnil | ⟨b, o, rfl, hok, hel⟩
      · have hnil : xs = [] := hnil
        subst hnil
        exact ⟨ad, cap, [], rfl, RowAt.nil, .inl rfl⟩
      · -- all cells, element by element
        have key : ∀ (n : Nat) (xs' : List t.den) (k : Nat), xs'.length = n → (∀ i (h : i < xs'.length), ∃ us, Reads c.w c.ok t xs'[i] us ∧ cellsAt c.w b (o + (k + i) * t.size) us) →
            ∃ us, RowAt c.w c.ok t xs' us ∧ ∀ j r, us[j]? = some r → c.w.cell? ⟨b, o + k * t.size + j, none⟩ = some r := by
          intro n
          induction n with
          | zero =>
            intro xs' k hx _
            have : xs' = [] := List.eq_nil_of_length_eq_zero hx
            subst this
            exact ⟨[], RowAt.nil, by simp⟩
          | succ n ih =>
            intro xs' k hx hel
            match xs', hx, hel with
            | x :: xs', hx, hel =>
              obtain ⟨us0, r0, c0⟩ := hel 0 (by simp)
              obtain ⟨us1, r1, c1⟩ := ih xs' (k + 1) (by simpa using hx) (fun i hi => by
                obtain ⟨us, g1, g2⟩ := hel (i + 1) (by simpa using hi)
                exact ⟨us, by simpa using g1, by rwa [show k + 1 + i = k + (i + 1) by omega]⟩)
              have l0 := r0.length
              refine ⟨us0 ++ us1, (RowAt.single (by simpa using r0)).append r1, fun j r hj => ?_⟩
              by_cases hlt : j < us0.length
              · rw [List.getElem?_append_left hlt] at hj
                have := c0 j hlt
                rw [List.getElem?_eq_getElem hlt] at hj
                simp only [Option.some.injEq] at hj
                rw [← hj, ← this, Nat.add_zero]
              · rw [List.getElem?_append_right (by omega)] at hj
                have := c1 _ _ hj
                rw [← this, Nat.succ_mul]
                congr 2
                omega
        obtain ⟨us, g1, g2⟩ := key xs.length xs 0 rfl (fun i hi => by simpa using hel i hi)
        exact ⟨_, cap, us, rfl, g1, .inr ⟨b, o, rfl, fun j r hj => by have := g2 j r hj; simpa using this⟩⟩
    · simp at hs
  · rename_i sz nm off n
    split at hs
    · rename_i t xs hnm
      split at hs
      · rename_i he
        subst he
        cases hb : Nat.beq sz t.size <;> rw [hb] at hs <;> simp only [cond_true, cond_false, reduceCtorEq, Option.some.injEq] at hs
        subst hs
        have hsz : sz = t.size := Nat.eq_of_beq_eq_true hb
        subst hsz
        obtain ⟨_, b, o, N, cap, ad, cap', hv, rfl, hcap, hoff, hcase⟩ := hd
        have hcast : castT rfl xs = xs := rfl
        rw [hcast]
        rcases (hh.blk _ _ hnm).hd (hh.plain _ _ _ hnm) with ⟨⟨ad', hv'⟩, rfl⟩ | ⟨b', cap0, vs, rest, tyy, pre, hv', _, hheap, hrow, hlen, hle⟩
        · rw [hv] at hv'
          simp only [Value.slice.injEq] at hv'
          have hn : n = 0 := by omega
          subst hn
          exact ⟨ad, cap', [], by simp, by simpa using RowAt.nil, .inl rfl⟩
        · rw [hv] at hv'
          simp only [Value.slice.injEq, Option.some.injEq, Addr.mk.injEq, and_true] at hv'
          obtain ⟨⟨rfl, rfl⟩, rfl, rfl⟩ := hv'
          have hl : ((xs.drop off).take n).length = n := by simp; omega
          have hvl := hrow.1
          have m1 : off * t.size + n * t.size ≤ vs.length := by rw [hvl, ← Nat.add_mul]; exact Nat.mul_le_mul_right _ hoff
          refine ⟨ad, cap', (vs.drop (off * t.size)).take (n * t.size), by rw [hl], (hrow.dropN off (by omega)).takeN n (by rw [List.length_drop]; omega), ?_⟩
          rcases hcase with h0 | rfl
          · left; subst h0; simp
          · refine .inr ⟨b, _, rfl, fun j r hj => ?_⟩
            have hjl : j < n * t.size := by
              rcases Nat.lt_or_ge j (n * t.size) with h | h
              · exact h
              · rw [List.getElem?_eq_none (by rw [List.length_take]; omega)] at hj; simp at hj
            rw [List.getElem?_take_of_lt hjl, List.getElem?_drop] at hj
            simp only [World.cell?, hheap, Option.isSome_none, Bool.false_eq_true, if_false, List.getElem?_toArray]
            rw [Nat.add_assoc, List.getElem?_append_right (by omega), Nat.add_sub_cancel_left, List.getElem?_append_left (by omega)]
            exact hj
      · simp at hs
    · simp at hs
  · simp only [Option.some.injEq] at hs
    subst hs
    have hd : u = .slice none 0 0 := hd
    exact ⟨none, 0, [], hd, RowAt.nil, .inl rfl⟩
  · simp only [Option.some.injEq] at hs
    subst hs
    obtain ⟨ad, hd⟩ := hd
    exact ⟨ad, 0, [], hd, RowAt.nil, .inl rfl⟩
  · simp at hs
theorem RowAt.ones {t : Ty} {xs : List t.den} {us : List Value} (h : RowAt c.w c.ok t xs us) : ∀ u ∈ us, u.oneCell' = true := by
  intro u hu
  obtain ⟨j, hj, rfl⟩ := List.getElem_of_mem hu
  have hsp := t.size_pos
  have hlt : j / t.size < xs.length := by
    rw [h.1] at hj
    exact Nat.div_lt_of_lt_mul (by rwa [Nat.mul_comm])
  obtain ⟨vs, h1, h2⟩ := h.2 (j / t.size) hlt
  have hl := h1.length
  have hmod : j % t.size < vs.length := by rw [hl]; exact Nat.mod_lt _ hsp
  have h3 := h2 (j % t.size) hmod
  rw [show j / t.size * t.size + j % t.size = j by rw [Nat.mul_comm]; exact Nat.div_add_mod j t.size] at h3
  rw [List.getElem?_eq_getElem hj, List.getElem?_eq_getElem hmod] at h3
  simp only [Option.some.injEq] at h3
  rw [h3]
  exact DenL.ones (enc_den h1) (enc_one t _) _ (List.getElem_mem hmod)
theorem zeroOf_run' {t : TypeId} {cs : List AV} (h : zeroOf P t = some cs) : ∃ v : Value, (zeroValue t).run P w = .ok v w ∧ True := by
  unfold zeroOf at h
  split at h
  · rename_i v hv
    cases hi : P.info? t with
    | none => simp [hi] at hv
    | some i =>
      simp only [hi, Option.bind_some] at hv
      exact ⟨v, by simp [zeroValue, typeInfo, hi, hv], trivial⟩
  · simp at h
theorem append_room {t ty e e' : TypeId} {i : TypeInfo} (ht : P.underlying t = some (.slice e)) (hi : P.info? e = some i)
    {g o sLen sCap : Nat} {cur : Array Value} (hg : w.heap[g]? = some (.cells cur e' (0, 0)))
    {ad : Option Addr} {m cp : Nat} {news : List Value} (hl : news.length = m * i.size) (hnews : news = [] ∨ ∃ x, ad = some x ∧ ∀ j u, news[j]? = some u → w.cell? (x.add j) = some u) (h1 : ∀ u ∈ news, u.oneCell' = true)
    (hroom : sLen + m ≤ sCap) (hfit : o + sLen * i.size + news.length ≤ cur.size) :
    (Builtin.append_ #[t, t] ty #[.slice (some ⟨g, o, none⟩) sLen sCap, .slice ad m cp]).run P w =
      .ok (.slice (some ⟨g, o, none⟩) (sLen + m) sCap) (w.setRow g (cur.toList.take (o + sLen * i.size) ++ news ++ cur.toList.drop (o + sLen * i.size + news.length)).toArray) := by
  have hf : (Builtin.firstCells i.size m (.slice ad m cp)).run P w = .ok news.toArray w := by
    rcases hnews with rfl | ⟨x, rfl, hx⟩
    · have hm0 : m * i.size = 0 := by simpa using hl.symm
      cases ad with
      | none => simp [Builtin.firstCells]
      | some x => simp [Builtin.firstCells, hm0, loadCells, loadCellsFrom]
    · exact run_firstCells_some (P := P) w i.size m x m cp news hl hx
  have hst := run_storeCells_at P g (o + sLen * i.size) e' news 0 cur w hg (by simpa using hfit) h1
  simp only [Nat.add_zero] at hst
  simp [Builtin.append_, run_underlying ht, sizeOf, typeInfo, hi, Builtin.lenOf, hroom, hf, Addr.add_lit, hst]
theorem setRow_wrote {g : Nat} {cur : Array Value} {e : TypeId} {cs : Array Value} (hg : w.heap[g]? = some (.cells cur e (0, 0))) : Wrote w (w.setRow g cs) g (.cells cs e (0, 0)) :=
  ⟨rfl, rfl, rfl, by simp, setRow_heap w g cur cs e _ hg, fun k hk => setRow_other w g k _ hk⟩
structure FitApp (P : Program) (e : TypeId) (ty : Ty) (i : TypeInfo) (z : Value) : Prop where
  info : P.info? e = some i
  size : i.size = ty.size
  bytes : i.bytes ≤ 8388608
  zero : i.zero = some z
  zsize : z.cells.size = ty.size
theorem fitsApp_spec {e : TypeId} {ty : Ty} (h : fitsApp P e ty = true) : ∃ i z, FitApp P e ty i z := by
  unfold fitsApp at h
  split at h
  · rename_i i hi
    simp only [Bool.and_eq_true, Nat.ble_eq] at h
    obtain ⟨h1, h2, h3⟩ := h
    split at h3
    · rename_i z hz
      exact ⟨i, z, hi, Nat.eq_of_beq_eq_true h1, h2, hz, Nat.eq_of_beq_eq_true h3⟩
    · simp at h3
  · simp at h
theorem small_bytes {n b : Nat} (h : n ≤ 16777216) (hb : b ≤ 8388608) : n * b ≤ 140737488355328 :=
  Nat.le_trans (Nat.mul_le_mul h hb) (by decide)
/-- What appending leaves: in the row's own block, or in a new one. -/
theorem append_run {t ty e : TypeId} {tt : Ty} {i : TypeInfo} {z : Value} (ht : P.underlying t = some (.slice e)) (hf : FitApp P e tt i z) {v : Value} {xs ys : List tt.den} {ad : Option Addr} {cap : Nat} {us : List Value}
    (hv : RowOld c base v tt xs) (hw : c.w = w) (hrow : RowAt c.w c.ok tt ys us) (hcells : us = [] ∨ ∃ b o, ad = some ⟨b, o, none⟩ ∧ ∀ j r, us[j]? = some r → c.w.cell? ⟨b, o + j, none⟩ = some r) (hlen : xs.length + ys.length ≤ 16777216) :
    ∃ v' w', (Builtin.append_ #[t, t] ty #[v, .slice ad ys.length cap]).run P w = .ok v' w' ∧
      (((∃ a, v' = .slice a 0 0) ∧ v = v' ∧ w' = w ∧ xs ++ ys = []) ∨
       (∃ b cap' vs rest tyy pre, v' = .slice (some ⟨b, List.length pre, none⟩) (xs ++ ys).length cap' ∧ w'.heap[b]? = some (.cells (List.toArray (pre ++ (vs ++ rest))) tyy (0, 0)) ∧ RowAt c.w c.ok tt (xs ++ ys) vs ∧ vs.length + rest.length = cap' * tt.size ∧ ((xs ++ ys).length ≤ cap' ∧ 0 < cap') ∧
         w.heap.size ≤ w'.heap.size ∧ ((Owns v b ∧ base.own b ∧ ∃ o, Wrote w w' b o) ∨ (b = w.heap.size ∧ ∃ o, w' = w.drew.alloc o)))) := by
  have hus : us.length = ys.length * i.size := by rw [hrow.1, hf.size]
  have hones : ∀ u ∈ us, u.oneCell' = true := hrow.ones
  have hzc : ∀ n, (Builtin.zeroCells z.cells n).toList.length = n * tt.size := fun n => by rw [Array.length_toList, size_zeroCells, hf.zsize]
  have haddr : ∀ (b o : Nat), (∀ j r, us[j]? = some r → c.w.cell? ⟨b, o + j, none⟩ = some r) → ∀ j r, us[j]? = some r → w.cell? ((⟨b, o, none⟩ : Addr).add j) = some r := fun b o h j r hj => by
    rw [add_addr, ← hw]; exact h j r hj
  rcases hv with ⟨⟨a0, rfl⟩, rfl⟩ | ⟨b, cp, vs, rest, tyy, pre, rfl, hge, hheap, hr0, hl0, hle0, hpos0⟩
  · by_cases hm : ys.length = 0
    · have hys : ys = [] := List.eq_nil_of_length_eq_zero hm
      subst hys
      refine ⟨.slice a0 0 0, w, ?_, .inl ⟨⟨a0, rfl⟩, rfl, rfl, rfl⟩⟩
      cases ad <;> cases a0 <;> simp [Builtin.append_, run_underlying ht, sizeOf, typeInfo, hf.info, Builtin.lenOf, Builtin.firstCells, loadCells, loadCellsFrom, storeCells]
    · rcases hcells with rfl | ⟨b, o, rfl, hc⟩
      · have hs := tt.size_pos
        rw [hf.size] at hus
        simp only [List.length_nil] at hus
        have : 0 < ys.length * tt.size := Nat.mul_pos (by omega) hs
        omega
      · simp only [List.length_nil, Nat.zero_add] at hlen
        have hr : (Builtin.append_ #[t, t] ty #[.slice a0 0 0, .slice (some ⟨b, o, none⟩) ys.length cap]).run P w = .ok (.slice (some ⟨w.heap.size, 0, none⟩) ys.length (grownCap w ys.length 0 e)) (w.drew.alloc (.cells (us.toArray ++ Builtin.zeroCells z.cells (grownCap w ys.length 0 e - ys.length)) e)) := by
          cases a0 with
          | none => exact run_append_nil (P := P) w t ty e i z ht hf.info hf.zero ⟨b, o, none⟩ ys.length cap us hus (haddr b o hc) (by omega) (by omega) (by have := small_bytes hlen hf.bytes; omega)
          | some ad0 =>
            have := run_append_grow (P := P) w t ty e i z ht hf.info hf.zero ad0 0 0 [] (by simp) (by simp) ⟨b, o, none⟩ ys.length cap us hus (haddr b o hc) (by omega) (by omega) (by rw [Nat.zero_add]; exact growslice_fits (by omega) (small_bytes hlen hf.bytes))
            simpa using this
        refine ⟨_, _, hr, .inr ⟨w.heap.size, grownCap w ys.length 0 e, us, (Builtin.zeroCells z.cells (grownCap w ys.length 0 e - ys.length)).toList, e, [], by simp, ?_, by simpa using hrow, ?_, ?_, by simp, .inr ⟨rfl, _, rfl⟩⟩⟩
        · show (w.heap.push _)[w.heap.size]? = _
          simp
        · have hg := grownCap_ge w ys.length 0 e
          rw [hzc, hrow.1, ← Nat.add_mul]
          congr 1
          omega
        · have := grownCap_ge w ys.length 0 e
          simp only [List.nil_append]
          omega
  · have hheap' : w.heap[b]? = some (.cells (List.toArray (pre ++ (vs ++ rest))) tyy (0, 0)) := by rw [← hw]; exact hheap
    have hvl : vs.length = xs.length * i.size := by rw [hr0.1, hf.size]
    by_cases hroom : xs.length + ys.length ≤ cp
    · have hfit0 : xs.length * i.size + us.length ≤ vs.length + rest.length := by
        simp only [hl0, hus, hf.size, ← Nat.add_mul]
        exact Nat.mul_le_mul_right _ hroom
      have hfit : List.length pre + xs.length * i.size + us.length ≤ (List.toArray (pre ++ (vs ++ rest))).size := by
        simp only [List.size_toArray, List.length_append]
        omega
      have hr := append_room (P := P) (ty := ty) ht hf.info hheap' (m := ys.length) (cp := cap) hus (hcells.imp id (fun ⟨b, o, h1, h2⟩ => ⟨⟨b, o, none⟩, h1, haddr b o h2⟩)) hones hroom hfit
      have htake : (List.toArray (pre ++ (vs ++ rest))).toList.take (List.length pre + xs.length * i.size) = pre ++ vs := by
        rw [← hvl]
        show (pre ++ (vs ++ rest)).take _ = _
        rw [← List.append_assoc, List.take_append_of_le_length (by simp), List.take_of_length_le (by simp)]
      have hdrop : (List.toArray (pre ++ (vs ++ rest))).toList.drop (List.length pre + xs.length * i.size + us.length) = rest.drop us.length := by
        rw [← hvl]
        show (pre ++ (vs ++ rest)).drop _ = _
        rw [show List.length pre + vs.length + us.length = (pre ++ vs).length + us.length by simp, ← List.append_assoc, ← List.drop_drop, List.drop_left]
      rw [htake, hdrop] at hr
      have hfit' : vs.length + us.length ≤ vs.length + rest.length := by
        omega
      refine ⟨_, _, hr, .inr ⟨b, cp, vs ++ us, rest.drop us.length, tyy, pre, by simp, ?_, hr0.append hrow, ?_, ⟨by simpa using hroom, hpos0⟩, by simp, .inl ⟨owns_some hpos0, hge, _, setRow_wrote hheap'⟩⟩⟩
      · rw [setRow_heap w b _ _ tyy _ hheap']
        simp only [List.append_assoc]
      · simp only [List.length_append, List.length_drop]
        omega
    · have hpos : 0 < ys.length := by omega
      rcases hcells with rfl | ⟨b2, o2, rfl, hc⟩
      · have hs := tt.size_pos
        rw [hf.size] at hus
        simp only [List.length_nil] at hus
        have : 0 < ys.length * tt.size := Nat.mul_pos hpos hs
        omega
      · have holds : ∀ j r, vs[j]? = some r → w.cell? ((⟨b, List.length pre, none⟩ : Addr).add j) = some r := fun j r hj => by
          have hjl : j < vs.length := by
            rcases Nat.lt_or_ge j vs.length with h | h
            · exact h
            · rw [List.getElem?_eq_none h] at hj; simp at hj
          rw [add_addr]
          simp only [World.cell?, hheap', Option.isSome_none, Bool.false_eq_true, if_false, List.getElem?_toArray]
          rw [List.getElem?_append_right (by omega), Nat.add_sub_cancel_left, List.getElem?_append_left hjl]; exact hj
        have hr := run_append_grow (P := P) w t ty e i z ht hf.info hf.zero ⟨b, List.length pre, none⟩ xs.length cp vs hvl holds ⟨b2, o2, none⟩ ys.length cap us hus (haddr b2 o2 hc) (by omega) (by omega) (growslice_fits (by omega) (small_bytes hlen hf.bytes))
        refine ⟨_, _, hr, .inr ⟨w.heap.size, grownCap w (xs.length + ys.length) cp e, vs ++ us, (Builtin.zeroCells z.cells (grownCap w (xs.length + ys.length) cp e - (xs.length + ys.length))).toList, e, [], by simp, ?_, hr0.append hrow, ?_, ?_, by simp, .inr ⟨rfl, _, rfl⟩⟩⟩
        · show (w.heap.push _)[w.heap.size]? = _
          simp
        · have hg := grownCap_ge w (xs.length + ys.length) cp e
          rw [hzc, List.length_append, hr0.1, hrow.1, ← Nat.add_mul, ← Nat.add_mul]
          congr 1
          omega
        · have := grownCap_ge w (xs.length + ys.length) cp e
          simp only [List.length_append]
          omega
theorem fields_plain {f : TypeId → Option Ty} (hf : ∀ t ty, f t = some ty → ty.isDeep = false) : ∀ {l : List Field} {ty : Ty}, tyOf.fields f l = some ty → ty.isDeep = false
  | [], _, h => by simp [tyOf.fields] at h
  | [fd], ty, h => hf _ _ h
  | fd :: fd2 :: rest, ty, h => by
    simp only [tyOf.fields] at h
    split at h
    · simp only [Option.some.injEq] at h; subst h; rfl
    · simp at h
theorem tyOf_plain : ∀ {n : Nat} {t : TypeId} {ty : Ty}, tyOf P n t = some ty → ty.isDeep = false
  | 0, _, _, h => by simp [tyOf] at h
  | n + 1, t, ty, h => by
    simp only [tyOf] at h
    split at h
    · simp only [Option.some.injEq] at h; subst h; rfl
    · simp only [Option.some.injEq] at h; subst h; rfl
    · simp only [Option.some.injEq] at h; subst h; rfl
    · simp only [Option.map_eq_some_iff] at h; obtain ⟨a, _, rfl⟩ := h; rfl
    · exact fields_plain (fun _ _ => tyOf_plain) h
    · simp at h
theorem append_sound {h : Nat → Option Blk} {dst : Option Nat} {ts : Array TypeId} {ty : TypeId} {x y : AV} {r : Res} {u z : Value} (hrep : RepAt base σ a w ref) (hdk : dstOk σ dst = true) (hbel : Bel base w0 w) (hbase : base.n ≤ w.heap.size)
    (hsub : ∀ n B, h n = some B → B.live = true → σ.heap n = some B) (hfr : ∀ d, dst = some d → h d = none → σ.heap d = none) (hh : HeapP (cxOf base σ w ref) base h)
    (hr : resAppend P h dst ts.toList x y = some r) (hp : r.need.ok) (hx : Den (cxOf base σ w ref) x u) (hy : Den (cxOf base σ w ref) y z) :
    ∃ v' w' ref', (Builtin.append_ ts ty #[u, z]).run P w = .ok v' w' ∧ Bel base w0 w' ∧ base.n ≤ w'.heap.size ∧ RepAt base { σ with heap := fun n => findU r.upd n (σ.heap n) } a w' ref' ∧
      Den (cxOf base { σ with heap := fun n => findU r.upd n (σ.heap n) } w' ref') r.val v' ∧ r.upd ≠ [] := by
  unfold resAppend at hr
  split at hr
  · rename_i t t' d hts
    have htsz : ts = #[t, t'] := by apply Array.ext'; exact hts
    subst htsz
    cases htt : Nat.beq t t' <;> rw [htt] at hr <;> simp only [cond_true, cond_false, reduceCtorEq] at hr
    have e0 : t = t' := Nat.eq_of_beq_eq_true htt
    subst e0
    have hfr := hfr d rfl
    split at hr
    · rename_i e hu hdn
      replace hdn := hfr hdn
      have fresh : ∀ (x0 : AV) (q : Option Res), q = (match tyOf P 8 e with
          | some ty => match srcRow h ty y with
            | some ys => bif fitsApp P e ty then some ⟨.p (ys.length ≤ 16777216), .row d, [(d, .row ty ys)]⟩ else none
            | none => none
          | none => none) → (∃ a0, u = .slice a0 0 0) → q = some r → ∃ v' w' ref', (Builtin.append_ #[t, t] ty #[u, z]).run P w = .ok v' w' ∧ Bel base w0 w' ∧ base.n ≤ w'.heap.size ∧ RepAt base { σ with heap := fun n => findU r.upd n (σ.heap n) } a w' ref' ∧
            Den (cxOf base { σ with heap := fun n => findU r.upd n (σ.heap n) } w' ref') r.val v' ∧ r.upd ≠ [] := by
        rintro _ q rfl hx hr
        split at hr
        · rename_i tt htt
          have hpl := tyOf_plain htt
          split at hr
          · rename_i ys hys
            cases hb : fitsApp P e tt <;> rw [hb] at hr <;> simp only [cond_true, cond_false, reduceCtorEq, Option.some.injEq] at hr
            subst hr
            obtain ⟨i, zz, hf⟩ := fitsApp_spec hb
            obtain ⟨ad, cap, us, rfl, hrow, hcells⟩ := src_cells hh hys hy
            obtain ⟨a0, rfl⟩ := hx
            obtain ⟨v', w', hrun, hres⟩ := append_run (w := w) (cap := cap) (ty := ty) (c := cxOf base σ w ref) (base := base) (xs := []) hu hf (.inl ⟨⟨a0, rfl⟩, rfl⟩) rfl hrow hcells (by simpa using hp)
            simp only [List.nil_append] at hres
            have hσ : ∀ n, ({ σ with heap := fun n => findU [(d, Blk.row tt ys)] n (σ.heap n) } : St).heap n = if n = d then some (.row tt ys) else σ.heap n := by
              intro n
              simp only [findU]
              by_cases h1 : n = d
              · subst h1; simp
              · rw [nbeq_ne h1, if_neg h1]; rfl
            have den : ∀ {w' : World} {v' : Value}, (∃ q n cp, v' = .slice q n cp) → Den (cxOf base { σ with heap := fun n => findU [(d, Blk.row tt ys)] n (σ.heap n) } w' (fun n => if n = d then v' else ref n)) (.row d) v' := fun hq =>
              ⟨⟨_, by rw [hσ, if_pos rfl]⟩, by obtain ⟨q, n, cp, rfl⟩ := hq; simp [cxOf], hq⟩
            rcases hres with ⟨hv', hvv, rfl, hnil⟩ | ⟨b, cap', vs, rest, tyy, pre, hv', hheap, hrow', hl', hle', hsz, hwhere⟩
            · refine ⟨v', w', _, hrun, hbel, hbase, hrep.add (nm := d) (u := v') (dst_ne hrep hdk) hdn hσ rfl rfl (Nat.le_refl _) (fun _ _ => rfl) (fun b hb => ?_) ((row_plain hpl).2 (.inl ⟨hv', hnil⟩)), den (by obtain ⟨a0, h⟩ := hv'; exact ⟨_, _, _, h⟩), by simp⟩
              obtain ⟨a1, hv'⟩ := hv'
              rw [hv'] at hb; exact (owns_zero hb).elim
            · rcases hwhere with ⟨hblk, _⟩ | ⟨rfl, o, rfl⟩
              · exact (owns_zero hblk).elim
              · have hgrow : ∀ b, b < w.heap.size → (w.drew.alloc o).heap[b]? = w.heap[b]? := fun b hb => Below.heap_alloc w.drew _ _ hb
                have huu : ∀ b, Owns v' b → w.heap.size ≤ b := fun b hb => by
                  rw [hv'] at hb; have hb := owns_slice hb; simp only at hb; omega
                have hle := cx_add (base := base) (ref := ref) (u := v') hdn hσ hsz hgrow huu
                exact ⟨v', _, _, hrun, hbel.drew.alloc hbase _, Nat.le_trans hbase hsz, hrep.add (nm := d) (u := v') (dst_ne hrep hdk) hdn hσ rfl rfl hsz hgrow huu ((row_plain hpl).2 (.inr ⟨_, cap', vs, rest, tyy, pre, hv', .inl hbase, hheap, hrow'.mono hle.ok hle.cell, hl', hle'⟩)), den ⟨_, _, _, hv'⟩, by simp⟩
          · simp at hr
        · simp at hr
      split at hr
      · rename_i nm
        split at hr
        · rename_i tt xs hnm
          split at hr
          · rename_i ys hys
            cases hb : (fitsApp P e tt && !(Nat.beq nm d)) <;> rw [hb] at hr <;> simp only [cond_true, cond_false, reduceCtorEq, Option.some.injEq] at hr
            subst hr
            simp only [Bool.and_eq_true, Bool.not_eq_true'] at hb
            obtain ⟨i, zz, hf⟩ := fitsApp_spec hb.1
            have hnd : nm ≠ d := fun he => by subst he; simp at hb
            have hnm' := hsub _ _ hnm rfl
            have hpl := hh.plain _ _ _ hnm
            obtain ⟨ad, cap, us, rfl, hrow, hcells⟩ := src_cells hh hys hy
            obtain ⟨_, rfl, _⟩ := hx
            rw [show headV ((cxOf base σ w ref).ref nm) = ref nm from (hrep.blk _ _ hnm').hv hpl]
            obtain ⟨v', w', hrun, hres⟩ := append_run (w := w) (cap := cap) (ty := ty) hu hf ((hrep.blk _ _ hnm').old hpl) rfl hrow hcells hp
            have hσ : ∀ n, ({ σ with heap := fun n => findU [(d, Blk.row tt (xs ++ ys)), (nm, Blk.dead)] n (σ.heap n) } : St).heap n = if n = d then some (.row tt (xs ++ ys)) else if n = nm then some .dead else σ.heap n := by
              intro n
              simp only [findU]
              by_cases h1 : n = d
              · subst h1; simp
              · rw [nbeq_ne h1, if_neg h1]
                by_cases h2 : n = nm
                · subst h2; simp
                · rw [nbeq_ne h2, if_neg h2]; rfl
            have den : ∀ {w' : World} {v' : Value}, (∃ q n cp, v' = .slice q n cp) → Den (cxOf base { σ with heap := fun n => findU [(d, Blk.row tt (xs ++ ys)), (nm, Blk.dead)] n (σ.heap n) } w' (fun n => if n = d then v' else ref n)) (.row d) v' := fun hq =>
              ⟨⟨_, by rw [hσ, if_pos rfl]⟩, by obtain ⟨q, n, cp, rfl⟩ := hq; simp [cxOf], hq⟩
            rcases hres with ⟨hv', hvv, rfl, hnil⟩ | ⟨b, cap', vs, rest, tyy, pre, hv', hheap, hrow', hl', hle', hsz, hwhere⟩
            · refine ⟨v', w', _, hrun, hbel, hbase, hrep.take (d := d) (u := v') hnm' rfl (dst_ne hrep hdk) hdn hσ rfl rfl (Nat.le_refl _) (fun _ _ _ => rfl) (fun b hb => ?_) (fun _ => (row_plain hpl).2 (.inl ⟨hv', hnil⟩)), den (by obtain ⟨a0, h⟩ := hv'; exact ⟨_, _, _, h⟩), by simp⟩
              obtain ⟨a0, hv'⟩ := hv'
              rw [hv'] at hb; exact (owns_zero hb).elim
            · have hB : (cxOf base σ w ref).le (cxOf base { σ with heap := fun n => findU [(d, Blk.row tt (xs ++ ys)), (nm, Blk.dead)] n (σ.heap n) } w' (fun n => if n = d then v' else ref n)) → base.own b →
                  BlkDen (cxOf base { σ with heap := fun n => findU [(d, Blk.row tt (xs ++ ys)), (nm, Blk.dead)] n (σ.heap n) } w' (fun n => if n = d then v' else ref n)) base v' (.row tt (xs ++ ys)) := fun hle hb =>
                (row_plain hpl).2 (.inr ⟨b, cap', vs, rest, tyy, pre, hv', hb, hheap, hrow'.mono hle.ok hle.cell, hl', hle'⟩)
              rcases hwhere with ⟨hblk, hge, o, hw⟩ | ⟨rfl, o, rfl⟩
              · refine ⟨v', w', _, hrun, hw.below hbel hge, by rw [hw.size]; exact hbase, hrep.take (d := d) (u := v') hnm' rfl (dst_ne hrep hdk) hdn hσ rfl rfl hsz (fun b' hb' hne => hw.other b' (by rintro rfl; exact hne hblk)) (fun b' hb' => ?_) (fun hle => hB hle hge), den ⟨_, _, _, hv'⟩, by simp⟩
                rw [hv'] at hb'
                have hb' := owns_slice hb'
                simp only at hb'
                subst hb'
                exact .inl hblk
              · refine ⟨v', _, _, hrun, hbel.drew.alloc hbase _, Nat.le_trans hbase hsz, hrep.take (d := d) (u := v') hnm' rfl (dst_ne hrep hdk) hdn hσ rfl rfl hsz (fun b' hb' _ => Below.heap_alloc w.drew _ _ hb') (fun b' hb' => ?_) (fun hle => hB hle (.inl hbase)), den ⟨_, _, _, hv'⟩, by simp⟩
                rw [hv'] at hb'
                have hb' := owns_slice hb'
                simp only at hb'
                omega
          · simp at hr
        · simp at hr
      · exact fresh .nilS _ rfl ⟨none, hx⟩ hr
      · exact fresh .empS _ rfl hx hr
      · simp at hr
    · simp at hr
  · simp at hr
theorem findU_kill : ∀ (ns : List Nat) (n : Nat) (z : Option Blk), findU (killU ns) n z = if n ∈ ns then some .dead else z
  | [], n, z => by simp [killU, findU]
  | m :: ns, n, z => by
    simp only [killU, findU, findU_kill ns, List.mem_cons]
    by_cases h : n = m
    · subst h; simp
    · rw [nbeq_ne h]; simp [h]
theorem rowsOnly_spec {h : Nat → Option Blk} : ∀ {ns : List Nat}, rowsOnly h ns = true → ∀ n ∈ ns, ∃ t xs, h n = some (.row t xs)
  | [], _, n, hn => by simp at hn
  | m :: ns, hr, n, hn => by
    simp only [rowsOnly, Bool.and_eq_true] at hr
    rcases List.mem_cons.1 hn with rfl | hn
    · have h1 := hr.1
      split at h1
      · rename_i t xs he; exact ⟨t, xs, he⟩
      · simp at h1
    · exact rowsOnly_spec hr.2 n hn
/-- Rows of one's own are given up: nobody writes there any more. -/
theorem kill_heap {σ : St} {ns : List Nat} (hns : ∀ n ∈ ns, ∃ t xs, σ.heap n = some (.row t xs)) (n : Nat) (B : Blk) (h : findU (killU ns) n (σ.heap n) = some B) : (n ∈ ns ∧ B = .dead) ∨ (n ∉ ns ∧ σ.heap n = some B) := by
  rw [findU_kill] at h
  split at h
  · rename_i hn; simp only [Option.some.injEq] at h; exact .inl ⟨hn, h.symm⟩
  · rename_i hn; exact .inr ⟨hn, h⟩
theorem kill_le {ns : List Nat} (hns : ∀ n ∈ ns, ∃ t xs, σ.heap n = some (.row t xs)) : (cxOf base σ w ref).le (cxOf base { σ with heap := fun n => findU (killU ns) n (σ.heap n) } w ref) := by
  refine ⟨fun n ⟨B, hB⟩ => ?_, fun _ _ => rfl, fun b hb => ⟨hb.1, hb.2.1, fun n B hB hl => ?_⟩, fun _ _ _ => rfl⟩
  · by_cases hn : n ∈ ns
    · exact ⟨.dead, by show findU (killU ns) n (σ.heap n) = _; rw [findU_kill, if_pos hn]⟩
    · exact ⟨B, by show findU (killU ns) n (σ.heap n) = _; rw [findU_kill, if_neg hn]; exact hB⟩
  · rcases kill_heap hns n B hB with ⟨_, rfl⟩ | ⟨_, h⟩
    · simp [Blk.live] at hl
    · exact hb.2.2 n B h hl
theorem RepAt.kill {ns : List Nat} (h : RepAt base σ a w ref) (hns : ∀ n ∈ ns, ∃ t xs, σ.heap n = some (.row t xs)) : RepAt base { σ with heap := fun n => findU (killU ns) n (σ.heap n) } a w ref := by
  have hle := kill_le (base := base) (w := w) (ref := ref) hns
  refine ⟨h.size, fun k => (h.env k).mono hle, fun n B hB => ?_, fun n m B B' b hB hl hB' hl' e1 e2 => ?_, h.le, fun u hu hx => h.lent u hu fun hy => hx ?_⟩
  · rcases kill_heap hns n B hB with ⟨_, rfl⟩ | ⟨_, h'⟩
    · trivial
    · exact BlkDen.mono hle (fun _ _ => rfl) (h.blk n B h')
  · rcases kill_heap hns n B hB with ⟨_, rfl⟩ | ⟨_, h1⟩
    · simp [Blk.live] at hl
    · rcases kill_heap hns m B' hB' with ⟨_, rfl⟩ | ⟨_, h2⟩
      · simp [Blk.live] at hl'
      · exact h.inj n m B B' b h1 hl h2 hl' e1 e2
  · show findU (killU ns) BR (σ.heap BR) = none
    rw [findU_kill, if_neg]
    · exact hy
    · intro hb; obtain ⟨t, xs, e⟩ := hns _ hb; rw [hy] at e; simp at e
theorem row_kill {ns : List Nat} (hrep : RepAt base σ a w ref) (hns : ∀ n ∈ ns, ∃ t xs, σ.heap n = some (.row t xs)) {nm : Nat} {t : Ty} {xs : List t.den} (hnm : nm ∈ ns) (hh : σ.heap nm = some (.row t xs)) :
    Reads w (cxOf base { σ with heap := fun n => findU (killU ns) n (σ.heap n) } w ref).ok (.seq t) xs [headV (ref nm)] := by
  have hle := kill_le (base := base) (w := w) (ref := ref) hns
  have hB := hrep.blk _ _ hh
  have hok : ∀ b, Owns (ref nm) b → (cxOf base { σ with heap := fun n => findU (killU ns) n (σ.heap n) } w ref).ok b := fun b hbk => by
    have hlt := hB.lt rfl hbk
    refine ⟨hlt.2, .inl hlt.1, fun n B hB hl hbn => ?_⟩
    rcases kill_heap hns n B hB with ⟨_, rfl⟩ | ⟨hn, h1⟩
    · simp [Blk.live] at hl
    · exact hn ((hrep.inj n nm B _ b h1 hl hh rfl hbn hbk) ▸ hnm)
  cases hpl : t.isDeep with
  | false =>
    rw [hB.hv hpl]
    exact RowOld.readsB (c := cxOf base σ w ref) hok (fun _ h => h.mono hle.ok (fun _ _ _ => rfl)) (hB.old hpl)
  | true =>
    cases t <;> simp only [Ty.isDeep, Bool.false_eq_true] at hpl
    case deep t' => exact DeepRow.readsB (c := cxOf base σ w ref) hok (show DeepRow (cxOf base σ w ref) base (ref nm) t' xs from hB)
mutual
theorem Den.kill {ns : List Nat} {h : Nat → Option Blk} (hrep : RepAt base σ a w ref) (hns : ∀ n ∈ ns, ∃ t xs, σ.heap n = some (.row t xs)) (hsub : ∀ n B, h n = some B → B.live = true → σ.heap n = some B) : ∀ {x : AV} {v : Value}, (∀ n ∈ x.names, n ∈ ns) → Den (cxOf base σ w ref) x v → Den (cxOf base { σ with heap := fun n => findU (killU ns) n (σ.heap n) } w ref) (frzB h x) v
  | .int _ _, _, _, hd => hd
  | .bool _, _, _, hd => hd
  | .lit _, _, _, hd => hd
  | .str _, _, _, hd => hd
  | .undef, _, _, _ => trivial
  | .unk, _, _, _ => trivial
  | .fn _, _, _, _ => trivial
  | .nilS, _, _, hd => hd
  | .empS, _, _, _ => trivial
  | .guess _, _, _, _ => trivial
  | .clo _ _, _, _, _ => trivial
  | .ptr _ _, _, _, _ => trivial
  | .elt _ _ _ _, _, _, _ => trivial
  | .part _ _ _ _, _, _, _ => trivial
  | .inr _ _, _, _, _ => trivial
  | .velt _ _ _, _, _, _ => trivial
  | .own _ _, _, _, _ => trivial
  | .tup _, _, _, _ => trivial
  | .view t xs, _, _, hd => Reads.mono (kill_le hns).ok (fun _ _ _ => rfl) hd
  | .row nm, v, hn, hd => by
    simp only [frzB]
    split
    · rename_i t xs hh
      obtain ⟨_, rfl, _⟩ := hd
      exact viewOf_den (row_kill hrep hns (hn nm (by simp [AV.names])) (hsub _ _ hh rfl))
    · trivial
  | .agg cs, _, hn, hd => by
    obtain ⟨vs, h1, h2⟩ := hd
    exact ⟨vs, h1, DenL.kill hrep hns hsub hn h2⟩
theorem DenL.kill {ns : List Nat} {h : Nat → Option Blk} (hrep : RepAt base σ a w ref) (hns : ∀ n ∈ ns, ∃ t xs, σ.heap n = some (.row t xs)) (hsub : ∀ n B, h n = some B → B.live = true → σ.heap n = some B) : ∀ {xs : List AV} {vs : List Value}, (∀ n ∈ AV.names.namesL xs, n ∈ ns) → DenL (cxOf base σ w ref) xs vs → DenL (cxOf base { σ with heap := fun n => findU (killU ns) n (σ.heap n) } w ref) (frzB.frzBL h xs) vs
  | [], _, _, hd => hd
  | x :: xs, _, hn, hd => by
    obtain ⟨v, vs', rfl, h1, h2⟩ := hd
    exact ⟨v, vs', rfl, Den.kill hrep hns hsub (fun n hm => hn n (by simp [AV.names.namesL, hm])) h1, DenL.kill hrep hns hsub (fun n hm => hn n (by simp [AV.names.namesL, hm])) h2⟩
end
theorem buildSlice_core {h : Nat → Option Blk} {dst : Option Nat} {t : TypeId} {len : Nat} {parts : Array (Nat × Operand)} {vals : List AV} {r : Res} (hrep : RepAt base σ a w ref) (hdk : dstOk σ dst = true) (hbel : Bel base w0 w) (hbase : base.n ≤ w.heap.size)
    (hfr : ∀ d, dst = some d → h d = none → σ.heap d = none) (hop : DenL (cxOf base σ w ref) vals ((parts.toList.map (·.2)).map a.eval)) (hr : resBuildSlice0 P h dst t len (parts.toList.map (·.1)) vals = some r) :
    ∃ v' w' ref', (Instr.buildSlice t len (parts.map fun (i, x) => (i, a.eval x))).run P w = .ok v' w' ∧ Bel base w0 w' ∧ base.n ≤ w'.heap.size ∧ RepAt base { σ with heap := fun n => findU r.upd n (σ.heap n) } a w' ref' ∧
      Den (cxOf base { σ with heap := fun n => findU r.upd n (σ.heap n) } w' ref') r.val v' ∧ r.upd ≠ [] ∧ ∃ d B, dst = some d ∧ h d = none ∧ r.upd = [(d, B)] := by
  unfold resBuildSlice0 at hr
  split at hr
  · rename_i e d hu
    have hfr := hfr d rfl
    split at hr
    · rename_i tt n zs hdn htt hn hz
      have hdn0 := hdn
      replace hdn := hfr hdn
      split at hr
      · rename_i xs hxs
        cases hb : (Nat.beq n tt.size && (Nat.ble (len * n) 16777216 && (Nat.beq (parts.toList.map (·.1)).length len && (isRange 0 (parts.toList.map (·.1)) && Nat.beq vals.length len)))) <;> rw [hb] at hr <;> simp only [cond_true, cond_false, reduceCtorEq, Option.some.injEq] at hr
        subst hr
        simp only [Bool.and_eq_true, Nat.ble_eq] at hb
        obtain ⟨b1, b2, b3, b4, b5⟩ := hb
        have b1 : n = tt.size := Nat.eq_of_beq_eq_true b1
        have b3 : (parts.toList.map (·.1)).length = len := Nat.eq_of_beq_eq_true b3
        have hlen : parts.toList.length = len := by simpa using b3
        have hidx := isRange_eq b4
        obtain ⟨hrow, hsz⟩ := decRow_den hxs hop
        have hrl : ((parts.toList.map (·.2)).map a.eval).length = len := by simpa using hlen
        obtain ⟨zv, hzr, _⟩ := zeroOf_run' (w := w) hz
        have hparts : (parts.map fun (i, x) => (i, a.eval x)).toList = (List.range' 0 ((parts.toList.map (·.2)).map a.eval).length).zip ((parts.toList.map (·.2)).map a.eval) := by
          have e1 : (parts.map fun (i, x) => (i, a.eval x)).toList = (parts.toList.map (·.1)).zip ((parts.toList.map (·.2)).map a.eval) := by
            simp only [Array.toList_map]
            induction parts.toList with
            | nil => rfl
            | cons p l ih => simp [ih]
          rw [e1, hidx, b3, hrl]
        have hfill := fun (rest : List Value) (hr' : rest.length = ((parts.toList.map (·.2)).map a.eval).length * tt.size) => fill_row (size := tt.size) ((parts.toList.map (·.2)).map a.eval) 0 [] rest (by simp) hsz hr'
        generalize hus : (((parts.toList.map (·.2)).map a.eval).flatMap fun r => r.cells.toList) = us at hrow hfill
        have hrun : (Instr.buildSlice t len (parts.map fun (i, x) => (i, a.eval x))).run P w = .ok (.slice (some ⟨w.heap.size, 0, none⟩) len len) { w with heap := w.heap.push (.cells us.toArray e) } := by
          unfold Instr.buildSlice
          simp only [Sem.run_bind, Go.underlying, run_program, Result.andThen_ok, hu, Sem.run_pure, size_run hn]
          rw [if_neg (by omega)]
          by_cases h0 : len * n = 0
          · simp only [h0, if_true, Sem.run_pure, Result.andThen_ok, Sem.run_bind]
            have hf := hfill [] (by rw [hrl, ← b1, h0]; rfl)
            simp only [List.nil_append] at hf
            rw [hparts]
            have er : (Array.range 0).map (fun x => (#[] : Array Value)[x % (#[] : Array Value).size]!) = #[] := by simp
            simp only [er, b1]
            rw [show (#[] : Array Value) = [].toArray from rfl, hf]
            simp [newRow]
          · simp only [h0, if_false, Sem.run_bind, hzr, Result.andThen_ok, Sem.run_pure]
            have hf := hfill ((Array.range (len * n)).map (fun x => zv.cells[x % zv.cells.size]!)).toList (by simp [hlen, b1])
            simp only [List.nil_append, Array.toArray_toList] at hf
            rw [hparts]
            simp only [b1] at hf ⊢
            rw [hf]
            simp [newRow]
        have hxl : xs.length = len := by
          have h1 := hrow.1
          have h2 : us.length = len * tt.size := by
            rw [← hus, ← hrl]
            have : ∀ l : List Value, (∀ r ∈ l, r.cells.size = tt.size) → (l.flatMap fun r => r.cells.toList).length = l.length * tt.size := by
              intro l
              induction l with
              | nil => simp
              | cons x l ih =>
                intro h
                have hx : x.cells.toList.length = tt.size := by simpa using h x (by simp)
                rw [List.flatMap_cons, List.length_append, hx, ih (fun r hr => h r (by simp [hr])), List.length_cons, Nat.succ_mul]; omega
            exact this _ hsz
          exact Nat.eq_of_mul_eq_mul_right tt.size_pos (h1.symm.trans h2)
        have hσ : ∀ n, ({ σ with heap := fun n => findU [(d, Blk.row tt xs)] n (σ.heap n) } : St).heap n = if n = d then some (.row tt xs) else σ.heap n := by
          intro n
          simp only [findU]
          by_cases h1 : n = d
          · subst h1; simp
          · rw [nbeq_ne h1, if_neg h1]; rfl
        have hgrow : ∀ b, b < w.heap.size → ({ w with heap := w.heap.push (.cells us.toArray e) } : World).heap[b]? = w.heap[b]? := fun b hb => by
          show (w.heap.push _)[b]? = _
          rw [Array.getElem?_push, if_neg (by omega)]
        have huu : ∀ b, Owns (.slice (some ⟨w.heap.size, 0, none⟩) len len) b → w.heap.size ≤ b := fun b hb => by
          have hb := owns_slice hb; simp only at hb; omega
        have hle := cx_add (base := base) (ref := ref) (u := .slice (some ⟨w.heap.size, 0, none⟩) len len) (w' := { w with heap := w.heap.push (.cells us.toArray e) }) hdn hσ (by simp) hgrow huu
        refine ⟨_, _, _, hrun, hbel.alloc hbase _, by simp; omega, hrep.add (nm := d) (u := .slice (some ⟨w.heap.size, 0, none⟩) len len) (dst_ne hrep hdk) hdn hσ rfl rfl (by simp) hgrow huu ?_, ⟨⟨_, by rw [hσ, if_pos rfl]⟩, by simp [cxOf], _, _, _, rfl⟩, by simp, d, _, rfl, hdn0, rfl⟩
        rcases Nat.eq_zero_or_pos len with h00 | hlp
        · have hxe : xs = [] := List.eq_nil_of_length_eq_zero (by omega)
          exact (row_plain (tyOf_plain htt)).2 (.inl ⟨⟨_, by rw [h00]⟩, hxe⟩)
        refine (row_plain (tyOf_plain htt)).2 (.inr ⟨w.heap.size, len, us, [], e, [], by rw [hxl]; rfl, .inl hbase, ?_, hrow.mono hle.ok hle.cell, ?_, by omega, hlp⟩)
        · show (w.heap.push _)[w.heap.size]? = _
          simp
        · rw [hrow.1, hxl]; simp
      · simp at hr
    · simp at hr
  · simp at hr
theorem buildSlice_sound {h : Nat → Option Blk} {dst : Option Nat} {t : TypeId} {len : Nat} {parts : Array (Nat × Operand)} {env : Nat → AV} {r : Res} (hrep : RepAt base σ a w ref) (hdk : dstOk σ dst = true) (hbel : Bel base w0 w) (hbase : base.n ≤ w.heap.size)
    (hsub : ∀ n B, h n = some B → B.live = true → σ.heap n = some B) (hfr : ∀ d, dst = some d → h d = none → σ.heap d = none) (hop : ∀ x, Den (cxOf base σ w ref) (opVal env x) (a.eval x)) (hr : resBuildSlice P h dst t len (parts.toList.map (·.1)) ((parts.toList.map (·.2)).map (opVal env)) = some r) :
    ∃ v' w' ref', (Instr.buildSlice t len (parts.map fun (i, x) => (i, a.eval x))).run P w = .ok v' w' ∧ Bel base w0 w' ∧ base.n ≤ w'.heap.size ∧ RepAt base { σ with heap := fun n => findU r.upd n (σ.heap n) } a w' ref' ∧
      Den (cxOf base { σ with heap := fun n => findU r.upd n (σ.heap n) } w' ref') r.val v' ∧ r.upd ≠ [] := by
  have hden := opVals_den hop (parts.toList.map (·.2))
  unfold resBuildSlice at hr
  split at hr
  · obtain ⟨v', w', ref', g1, g2, g3, g4, g5, g6, _⟩ := buildSlice_core hrep hdk hbel hbase hfr hden hr
    exact ⟨v', w', ref', g1, g2, g3, g4, g5, g6⟩
  · rename_i n ns hN
    cases hb : rowsOnly h (n :: ns) <;> rw [hb] at hr <;> simp only [cond_true, cond_false, reduceCtorEq] at hr
    split at hr
    · rename_i r0 hr0
      simp only [Option.some.injEq] at hr
      subst hr
      have hns : ∀ m ∈ n :: ns, ∃ t xs, σ.heap m = some (.row t xs) := fun m hm => by
        obtain ⟨t, xs, e⟩ := rowsOnly_spec hb m hm
        exact ⟨t, xs, hsub _ _ e rfl⟩
      obtain ⟨v', w', ref', g1, g2, g3, g4, g5, g6, d, B, hd, hdn, hu⟩ := buildSlice_core (σ := { σ with heap := fun m => findU (killU (n :: ns)) m (σ.heap m) }) (hrep.kill hns) hdk hbel hbase (fun d h1 h2 => by
        show findU (killU (n :: ns)) d (σ.heap d) = none
        rw [findU_kill, if_neg, ← hfr d h1]
        · exact h2
        · intro hm
          obtain ⟨t, xs, e⟩ := rowsOnly_spec hb d hm
          rw [h2] at e; simp at e) (DenL.kill hrep hns hsub (fun m hm => by rw [hN] at hm; exact hm) hden) hr0
      rw [hu] at g4 g5
      refine ⟨v', w', ref', g1, g2, g3, ?_, ?_, by simp [hu]⟩
      · simp only [hu]; exact g4
      · simp only [hu]; exact g5
    · simp at hr
/-! ### a place of a row set anew; a new row of zero values -/
theorem spliced_get {α : Type} (vs zs : List α) (a p : Nat) (h : a + zs.length ≤ vs.length) : (vs.take a ++ zs ++ vs.drop (a + zs.length))[p]? = if p < a then vs[p]? else if p < a + zs.length then zs[p - a]? else vs[p]? := by
  have hl : (vs.take a).length = a := by simp; omega
  have hl2 : (vs.take a ++ zs).length = a + zs.length := by simp; omega
  split
  · rename_i h1
    rw [List.append_assoc, List.getElem?_append_left (by rw [hl]; exact h1), List.getElem?_take_of_lt h1]
  · split
    · rename_i h1 h2
      rw [List.getElem?_append_left (by rw [hl2]; exact h2), List.getElem?_append_right (by rw [hl]; omega), hl]
    · rename_i h1 h2
      rw [List.getElem?_append_right (by rw [hl2]; omega), List.getElem?_drop, hl2]
      congr 1; omega
theorem RowAt.set {t : Ty} {xs : List t.den} {vs zs : List Value} {i off : Nat} {y : t.den} (h : RowAt c.w c.ok t xs vs) (hi : i < xs.length) (hoff : off + zs.length ≤ t.size)
    (hy : ∀ us, us.length = t.size → Reads c.w c.ok t xs[i] us → Reads c.w c.ok t y (us.take off ++ zs ++ us.drop (off + zs.length))) :
    RowAt c.w c.ok t (xs.set i y) (vs.take (i * t.size + off) ++ zs ++ vs.drop (i * t.size + off + zs.length)) := by
  have hlen := h.1
  have hin : i * t.size + t.size ≤ vs.length := by
    rw [hlen, ← Nat.succ_mul]; exact Nat.mul_le_mul_right _ hi
  refine ⟨by rw [List.length_set, ← hlen]; simp; omega, fun j hj => ?_⟩
  simp only [List.length_set] at hj
  obtain ⟨us, h1, h2⟩ := h.2 j hj
  have hul := h1.length
  have hjb : j * t.size + t.size ≤ vs.length := by rw [hlen, ← Nat.succ_mul]; exact Nat.mul_le_mul_right _ hj
  by_cases he : j = i
  · subst he
    refine ⟨us.take off ++ zs ++ us.drop (off + zs.length), by simpa using hy us hul h1, fun k hk => ?_⟩
    have hk : k < t.size := by simp at hk; omega
    rw [spliced_get _ _ _ _ (by omega), spliced_get _ _ _ _ (by omega)]
    have g := h2 k (by omega)
    by_cases k1 : k < off
    · rw [if_pos (by omega), if_pos k1]; exact g
    · by_cases k2 : k < off + zs.length
      · rw [if_neg (by omega), if_pos (by omega), if_neg k1, if_pos k2]
        congr 1; omega
      · rw [if_neg (by omega), if_neg (by omega), if_neg k1, if_neg k2]; exact g
  · refine ⟨us, by rw [List.getElem_set_ne (fun h => he h.symm)]; exact h1, fun k hk => ?_⟩
    rw [hul] at hk
    have g := h2 k (by omega)
    rw [spliced_get _ _ _ _ (by omega)]
    rcases Nat.lt_or_ge j i with hlt | hge
    · have : j * t.size + t.size ≤ i * t.size := by rw [← Nat.succ_mul]; exact Nat.mul_le_mul_right _ hlt
      rw [if_pos (by omega)]
      exact g
    · have hgt : i < j := by omega
      have : i * t.size + t.size ≤ j * t.size := by rw [← Nat.succ_mul]; exact Nat.mul_le_mul_right _ hgt
      rw [if_neg (by omega), if_neg (by omega)]
      exact g
theorem RowAt.zeros {t : Ty} {y : t.den} {z : Array Value} (h : Reads c.w c.ok t y z.toList) (n : Nat) : RowAt c.w c.ok t (List.replicate n y) (madeCells z (n * t.size)).toList := by
  have hz : z.size = t.size := by have := h.length; simpa using this
  refine ⟨by simp [madeCells], fun i hi => ⟨z.toList, by simpa using h, fun j hj => ?_⟩⟩
  simp only [List.length_replicate] at hi
  have hj : j < t.size := by rw [← hz]; simpa using hj
  have hb : i * t.size + t.size ≤ n * t.size := by rw [← Nat.succ_mul]; exact Nat.mul_le_mul_right _ hi
  have hm : (i * t.size + j) % t.size = j := by rw [Nat.mul_comm, Nat.mul_add_mod, Nat.mod_eq_of_lt hj]
  simp only [madeCells, Array.toList_map, Array.toList_range, List.getElem?_map]
  rw [List.getElem?_range (by omega)]
  simp only [Option.map_some, hz, hm]
  rw [getElem!_pos z j (by omega), List.getElem?_eq_getElem (by simpa using (by omega : j < z.size))]
  simp
theorem pre_splice (pre vs rest zs : List Value) (k : Nat) (h : k + zs.length ≤ vs.length) : (pre ++ (vs ++ rest)).take (List.length pre + k + 0) ++ zs ++ (pre ++ (vs ++ rest)).drop (List.length pre + k + 0 + zs.length) = pre ++ ((vs.take k ++ zs ++ vs.drop (k + zs.length)) ++ rest) := by
  rw [Nat.add_zero, List.take_append, List.take_of_length_le (by omega : pre.length ≤ _), Nat.add_sub_cancel_left, List.take_append_of_le_length (by omega)]
  rw [Nat.add_assoc, ← List.drop_drop, List.drop_left, List.drop_append_of_le_length (by omega)]
  simp only [List.append_assoc]
theorem store_sound {h : Nat → Option Blk} {t : TypeId} {x v : AV} {r : Res} {u z : Value} {dst : Option Nat} (hrep : RepAt base σ a w ref) (hsub : ∀ n B, h n = some B → B.live = true → σ.heap n = some B) (hpl : ∀ n t xs, h n = some (.row t xs) → t.isDeep = false) (hr : resStore P h t x v = some r)
    (hp : r.need.ok) (hx : Den (cxOf base σ w ref) x u) (hv : Den (cxOf base σ w ref) v z) :
    ∃ w' b o, (Instr.storeAt t u z).run P w = .ok () w' ∧ Wrote w w' b o ∧ base.own b ∧ RepAt base { σ with heap := fun n => findU r.upd n (σ.heap n) } a w' ref ∧ r.val = .undef ∧ r.upd ≠ [] := by
  unfold resStore at hr
  split at hr
  · rename_i nm off us n hc hs
    split at hr
    · rename_i cs hnm
      cases hb : (Nat.beq us.length n && Nat.ble (off + n) cs.length && us.all AV.one) <;> rw [hb] at hr <;> simp only [cond_true, cond_false, Option.some.injEq, reduceCtorEq] at hr
      simp only [Bool.and_eq_true, Nat.ble_eq] at hb
      obtain ⟨⟨hb1, hb2⟩, hb3⟩ := hb
      have hn : us.length = n := by simpa using hb1
      subst hr
      have hnm' := hsub _ _ hnm rfl
      obtain ⟨_, b, hb, rfl⟩ := hx
      obtain ⟨b', vs, ty, hv', hge, hheap, hd⟩ := hrep.blk _ _ hnm'
      have hb0 : ref nm = .pointer (some ⟨b, 0, none⟩) := hb
      rw [hb0] at hv'
      simp only [Value.pointer.injEq, Option.some.injEq, Addr.mk.injEq, and_true] at hv'
      subst hv'
      obtain ⟨zs, hz, hdz⟩ := cellsOf_den hc hv
      have hl := hd.length
      have hlz := hdz.length
      obtain ⟨w', hrun, hw⟩ := storeCells_wrote (P := P) (off := off) zs 0 vs w hheap (hdz.ones hb3) (by omega)
      refine ⟨w', b, _, ?_, hw, hge, ?_, rfl, by simp⟩
      · have hz' : z.cells.size = n := by rw [← Array.length_toList, hz, hlz, hn]
        simp only [Instr.storeAt, Instr.sureAddr, storeVar, Sem.run_bind, Sem.run_pure, Result.andThen_ok, size_run hs, hz', ne_eq, not_true, if_false, hz]
        exact hrun
      · refine (hrep.wrote (σ' := { σ with heap := fun n => findU [(nm, .box (Sx.splice cs off us))] n (σ.heap n) }) (B := .box cs) (B' := .box (Sx.splice cs off us)) (nm := nm) hnm' rfl (by rw [hb0]; rfl) rfl (fun m => ?_) rfl rfl hw (fun hle => ?_)).1
        · simp only [findU]
          by_cases he : m = nm
          · subst he; simp
          · simp [nbeq_ne he, he]
        · refine ⟨b, _, ty, hb0, hge, hw.here, ?_⟩
          exact (hd.mono hle).splice (hdz.mono hle)
    · simp at hr
  · rename_i sz nm i off us n hc hs
    split at hr
    · rename_i t' xs hnm
      cases hb : (Nat.beq sz t'.size && (Nat.beq us.length n && (Nat.ble (off + n) sz && us.all AV.one))) <;> rw [hb] at hr <;> simp only [cond_true, cond_false, reduceCtorEq] at hr
      simp only [Bool.and_eq_true, Nat.ble_eq] at hb
      obtain ⟨hb0, hb1, hb2, hb3⟩ := hb
      have hsz : sz = t'.size := Nat.eq_of_beq_eq_true hb0
      subst hsz
      have hn : us.length = n := Nat.eq_of_beq_eq_true hb1
      split at hr
      · rename_i y hy
        have hset : setC t' xs i off us = xs.set i y := by simp only [setC, putC, hy]
        rw [hset] at hr
        replace hr : some (Res.mk (.p (i < xs.length)) .undef [(nm, .row t' (xs.set i y))]) = some r := by
          rw [← hr]; cases Nat.beq us.length t'.size <;> rfl
        simp only [Option.some.injEq] at hr
        subst hr
        have hp : i < xs.length := hp
        have hnm' := hsub _ _ hnm rfl
        obtain ⟨_, b, o, n', cap, hb, rfl⟩ := hx
        have hb0 : ref nm = .slice (some ⟨b, o, none⟩) n' cap := ((hrep.blk _ _ hnm').hv (hpl _ _ _ hnm)).symm.trans hb
        rcases (hrep.blk _ _ hnm').old (hpl _ _ _ hnm) with ⟨hv', rfl⟩ | ⟨b', cap', vs, rest, ty, pre, hv', hge, hheap, hrow, hlen, hle, hpos⟩
        · simp at hp
        rw [hb0] at hv'
        simp only [Value.slice.injEq, Option.some.injEq, Addr.mk.injEq, and_true] at hv'
        obtain ⟨⟨rfl, rfl⟩, rfl, rfl⟩ := hv'
        obtain ⟨zs, hz, hdz⟩ := cellsOf_den hc hv
        have hlz := hdz.length
        have hvl := hrow.1
        have hin : i * t'.size + t'.size ≤ vs.length := by
          rw [hvl, ← Nat.succ_mul]; exact Nat.mul_le_mul_right _ hp
        obtain ⟨w', hrun, hw⟩ := storeCells_wrote (P := P) (off := List.length pre + (i * t'.size + off)) zs 0 (pre ++ (vs ++ rest)) w hheap (hdz.ones hb3) (by simp; omega)
        have harr : (pre ++ (vs ++ rest)).take (List.length pre + (i * t'.size + off) + 0) ++ zs ++ (pre ++ (vs ++ rest)).drop (List.length pre + (i * t'.size + off) + 0 + zs.length) = pre ++ ((vs.take (i * t'.size + off) ++ zs ++ vs.drop (i * t'.size + off + zs.length)) ++ rest) := by
          exact pre_splice pre vs rest zs _ (by omega)
        rw [harr] at hw
        refine ⟨w', b, _, ?_, hw, hge, ?_, rfl, by simp⟩
        · have hz' : z.cells.size = n := by rw [← Array.length_toList, hz, hlz, hn]
          simp only [Instr.storeAt, Instr.sureAddr, storeVar, Sem.run_bind, Sem.run_pure, Result.andThen_ok, size_run hs, hz', ne_eq, not_true, if_false, hz]
          exact hrun
        · refine (hrep.wrote (σ' := { σ with heap := fun n => findU [(nm, .row t' (xs.set i y))] n (σ.heap n) }) (B := .row t' xs) (B' := .row t' (xs.set i y)) (nm := nm) hnm' rfl (by rw [hb0]; exact owns_some hpos) rfl (fun m => ?_) rfl rfl hw (fun hle' => ?_)).1
          · simp only [findU]
            by_cases he : m = nm
            · subst he; simp
            · simp [nbeq_ne he, he]
          · refine (row_plain (hpl _ _ _ hnm)).2 (.inr ⟨b, cap, _, rest, ty, pre, by rw [List.length_set]; exact hb0, hge, hw.here, ?_, ?_, by simpa using hle, hpos⟩)
            · refine RowAt.set (hrow.mono hle'.ok hle'.cell) hp (by omega) fun us' hul hrd => ?_
              have hd := decT_den hy (DenL.splice (off := off) (by rw [getD_eq _ _ _ hp]; exact enc_den hrd) (hdz.mono hle'))
              exact den_reads hd
            · simp only [List.length_append, List.length_take, List.length_drop]; omega
      · simp at hr
    · simp at hr
  · simp at hr
/-! ### a row cut at its end; elements set to zero -/
end
end Sx
end Go.Proofs.Ytemlpimibhijoaa
