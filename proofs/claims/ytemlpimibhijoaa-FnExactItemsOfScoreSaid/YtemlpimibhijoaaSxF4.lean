/- The evaluator is sound: a row within a row of rows is taken out, written to, put back. Conditions: as each says. -/
import Derived.Test.YtemlpimibhijoaaSxF3
set_option linter.unusedSimpArgs false
set_option linter.unusedVariables false
namespace Go.Proofs.Ytemlpimibhijoaa
open Go.RowKit
namespace Sx
section
variable {P : Program} {base : Base} {w0 w w' : World} {σ σ' : St} {a : Act} {ref : Nat → Value} {c c' : Cx}
theorem sp1_set {α : Type} {l : List α} {off : Nat} {u : α} (h : off < l.length) : sp1 l off u = l.set off u := by
  rw [List.set_eq_take_append_cons_drop, if_pos h]; simp [sp1]
/-- The row in an element, and what the element is with another one in its place. -/
theorem DeepR.innerS : ∀ {t : Ty} {x : t.den} {vs ins : List Value} {off : Nat} {e : Ty} {l : List e.den}, DeepR c base t x vs ins → (enc t x)[off]? = some (.view e l) →
    ∃ ia u ic, ins = ia ++ (u :: ic) ∧ vs[off]? = some u ∧ e.flat = true ∧ RowOld c base u e l ∧
      ∀ (c' : Cx) (base' : Base) (z : Value) (ys : List e.den) (y : t.den), (∀ u' ∈ ia ++ ic, ∀ b, blkOf u' = some b → (base.own b → base'.own b) ∧ c'.w.heap[b]? = c.w.heap[b]?) → RowOld c' base' z e ys → decT t (sp1 (enc t x) off (.view e ys)) = some y → DeepR c' base' t y (sp1 vs off z) (ia ++ (z :: ic))
  | .int k, x, vs, ins, off, e, l, h, he => by
    simp only [enc, List.getElem?_singleton] at he
    split at he <;> simp at he
  | .bool, x, vs, ins, off, e, l, h, he => by
    simp only [enc, List.getElem?_singleton] at he
    split at he <;> simp at he
  | .str, x, vs, ins, off, e, l, h, he => by
    simp only [enc, List.getElem?_singleton] at he
    split at he <;> simp at he
  | .seq t, x, vs, ins, off, e, l, h, he => by
    simp only [enc, List.getElem?_singleton] at he
    split at he
    · rename_i h0
      simp only [Option.some.injEq, AV.view.injEq] at he
      obtain ⟨rfl, he⟩ := he
      have he := eq_of_heq he
      subst he
      subst h0
      obtain ⟨v, rfl, rfl, hf, hr⟩ := h
      refine ⟨[], v, [], rfl, rfl, hf, hr, fun c' base' z ys y _ hr' hy => ?_⟩
      have hy : decQ t [.view t ys] = some y := hy
      simp only [decQ, castT, dite_true, Option.some.injEq] at hy
      subst hy
      exact ⟨z, rfl, rfl, hf, hr'⟩
    · simp at he
  | .deep _, _, _, _, _, _, _, h, _ => h.elim
  | .pair a b, x, vs, ins, off, e, l, h, he => by
    obtain ⟨v1, v2, i1, i2, rfl, rfl, h1, h2⟩ := h
    have l1 := enc_length a x.1
    have k1 := h1.length
    simp only [enc] at he
    rcases Nat.lt_or_ge off a.size with hlt | hge
    · rw [List.getElem?_append_left (by omega)] at he
      obtain ⟨ia, u, ic, rfl, g1, g2, g3, g4⟩ := h1.innerS he
      refine ⟨ia, u, ic ++ i2, by simp, by rw [List.getElem?_append_left (by omega)]; exact g1, g2, g3, fun c' base' z ys y hm hr hy => ?_⟩
      simp only [decT, enc] at hy
      rw [sp1_left (by omega)] at hy
      have hl := sp1_length (u := AV.view e ys) (l := enc a x.1) (off := off) (by omega)
      rw [show a.size = (sp1 (enc a x.1) off (AV.view e ys)).length by omega, List.take_left, List.drop_left, decT_enc] at hy
      split at hy
      · rename_i y1 y2 e1 e2
        simp only [Option.some.injEq] at hy e2
        subst hy e2
        refine ⟨sp1 v1 off z, v2, ia ++ (z :: ic), i2, sp1_left (by omega), by simp, g4 c' base' z ys y1 (fun u' hu' => hm u' ?_) hr e1, h2.move fun u' hu' => hm u' (by simp [hu'])⟩
        rcases List.mem_append.1 hu' with h | h <;> simp [h]
      · simp at hy
    · rw [List.getElem?_append_right (by omega), l1] at he
      obtain ⟨ia, u, ic, rfl, g1, g2, g3, g4⟩ := h2.innerS he
      refine ⟨i1 ++ ia, u, ic, by simp, by rw [List.getElem?_append_right (by omega), k1]; exact g1, g2, g3, fun c' base' z ys y hm hr hy => ?_⟩
      simp only [decT, enc] at hy
      rw [sp1_right (by omega), l1] at hy
      rw [← l1, List.take_left, List.drop_left, l1, decT_enc] at hy
      split at hy
      · rename_i y1 y2 e1 e2
        simp only [Option.some.injEq] at hy e1
        subst hy e1
        refine ⟨v1, sp1 v2 (off - a.size) z, i1, ia ++ (z :: ic), by rw [sp1_right (by omega), k1], by simp, h1.move fun u' hu' => hm u' (by simp [hu']), g4 c' base' z ys y2 (fun u' hu' => hm u' ?_) hr e2⟩
        rcases List.mem_append.1 hu' with h | h <;> simp [h]
      · simp at hy
theorem DeepRow.open {v : Value} {t e : Ty} {xs : List t.den} {l : List e.den} {i off : Nat} (h : DeepRow c base v t xs) (hi : i < xs.length) (hn : nIn t = 1) (hel : (enc t (xs.getD i t.zero))[off]? = some (.view e l)) :
    ∃ s ia u ic b cap vs rest ty pre, v = .tuple (List.toArray (s :: (ia ++ (u :: ic)))) ∧ (s :: (ia ++ (u :: ic))).Pairwise (fun x y => ∀ b, blkOf x = some b → blkOf y ≠ some b) ∧ s = .slice (some ⟨b, List.length pre, none⟩) xs.length cap ∧ base.own b ∧
      c.w.heap[b]? = some (.cells (List.toArray (pre ++ (vs ++ rest))) ty (0, 0)) ∧ vs[i * t.size + off]? = some u ∧ e.flat = true ∧ RowOld c base u e l ∧
      HoleAt c base t e xs i off vs ia ic ∧ off < t.size ∧ vs.length = xs.length * t.size ∧ vs.length + rest.length = cap * t.size ∧ xs.length ≤ cap ∧ 0 < cap := by
  obtain ⟨s, ins, rfl, hpr, hdp⟩ := h
  rcases hdp with ⟨_, rfl, _⟩ | ⟨b, cap, vs, rest, tyy, pre, hs, hge, hheap, hrow, hlen, hle, hpos⟩
  · simp at hi
  have hvl := hrow.length
  obtain ⟨va, vb, vc, ia, ib, ic, rfl, rfl, hl, hil, hR, hk⟩ := hrow.modify hi
  obtain ⟨ja, u, jc, rfl, hcell, hflat, hold, hput⟩ := hR.innerS hel
  have hone := hR.rows
  rw [hn] at hone
  simp only [List.length_append, List.length_cons] at hone
  obtain rfl : ja = [] := List.eq_nil_of_length_eq_zero (by omega)
  obtain rfl : jc = [] := List.eq_nil_of_length_eq_zero (by omega)
  have hbl := hR.length
  have hoff : off < vb.length := by
    rcases Nat.lt_or_ge off vb.length with h | h
    · exact h
    · rw [List.getElem?_eq_none h] at hcell; simp at hcell
  refine ⟨s, ia, u, ic, b, cap, _, rest, tyy, pre, rfl, hpr, hs, hge, hheap, ?_, hflat, hold, fun c' B' hm z ys y hr hy => ?_, by omega, hvl, hlen, hle, hpos⟩
  · rw [List.getElem?_append_right (by omega), hl, Nat.add_sub_cancel_left, List.getElem?_append_left hoff]; exact hcell
  · have hR' := hput c' B' z ys y (fun u' hu' => by simp at hu') hr hy
    have e1 : (va ++ (vb ++ vc)).set (i * t.size + off) z = va ++ (sp1 vb off z ++ vc) := by
      rw [← sp1_set (by simp; omega), sp1_right (by omega), hl, Nat.add_sub_cancel_left, sp1_left (by omega)]
    rw [e1]
    exact hk c' B' hm y _ _ hR'
/-- A row of rows gives some of its blocks to a new name. -/
theorem RepAt.split {nm d : Nat} {B0 B1 B2 : Blk} {u1 u2 : Value} (h : RepAt base σ a w ref) (hnm : σ.heap nm = some B0) (hl0 : B0.live = true) (hnb : nm ≠ BR) (hd : σ.heap d = none) (hdb : d ≠ BR)
    (hhead : headV u1 = headV (ref nm)) (htup : ∃ us, ref nm = .tuple us) (hu1 : ∀ b, Owns u1 b → Owns (ref nm) b) (hu2 : ∀ b, Owns u2 b → Owns (ref nm) b) (hdis : ∀ b, Owns u1 b → ¬ Owns u2 b)
    (hσ : ∀ n, σ'.heap n = if n = d then some B2 else if n = nm then some B1 else σ.heap n) (henv : σ'.env = σ.env) (hnt : σ'.nt = σ.nt)
    (hB1 : (cxOf base σ w ref).leH (cxOf base σ' w (fun n => if n = d then u2 else if n = nm then u1 else ref n)) → BlkDen (cxOf base σ' w (fun n => if n = d then u2 else if n = nm then u1 else ref n)) base u1 B1)
    (hB2 : (cxOf base σ w ref).leH (cxOf base σ' w (fun n => if n = d then u2 else if n = nm then u1 else ref n)) → BlkDen (cxOf base σ' w (fun n => if n = d then u2 else if n = nm then u1 else ref n)) base u2 B2) :
    RepAt base σ' a w (fun n => if n = d then u2 else if n = nm then u1 else ref n) ∧ (cxOf base σ w ref).leH (cxOf base σ' w (fun n => if n = d then u2 else if n = nm then u1 else ref n)) := by
  have hne : nm ≠ d := fun e => by rw [e, hd] at hnm; simp at hnm
  have key : ∀ n B, n ≠ d → n ≠ nm → σ'.heap n = some B → σ.heap n = some B := fun n B h1 h2 hB => by
    rw [hσ, if_neg h1, if_neg h2] at hB; exact hB
  have hle : (cxOf base σ w ref).leH (cxOf base σ' w (fun n => if n = d then u2 else if n = nm then u1 else ref n)) := by
    refine ⟨fun n ⟨B, hB⟩ => ?_, fun n ⟨B, hB⟩ => ?_, fun b hb => ⟨hb.1, hb.2.1, fun n B hB hl => ?_⟩, fun _ _ _ => rfl⟩
    · show ∃ B, σ'.heap n = some B
      rw [hσ]
      split
      · exact ⟨_, rfl⟩
      · split
        · exact ⟨_, rfl⟩
        · exact ⟨_, hB⟩
    · have h1 : n ≠ d := fun e => by rw [e, hd] at hB; simp at hB
      show (if n = d then u2 else if n = nm then u1 else ref n) = ref n ∨ (headV (if n = d then u2 else if n = nm then u1 else ref n) = headV (ref n) ∧ _)
      rw [if_neg h1]
      by_cases h2 : n = nm
      · subst h2; rw [if_pos rfl]; exact .inr ⟨hhead, htup, hnb⟩
      · rw [if_neg h2]; exact .inl rfl
    · show ¬ Owns (if n = d then u2 else if n = nm then u1 else ref n) b
      by_cases h1 : n = d
      · rw [if_pos h1]; exact fun hx => hb.2.2 nm B0 hnm hl0 (hu2 b hx)
      · rw [if_neg h1]
        by_cases h2 : n = nm
        · rw [if_pos h2]; exact fun hx => hb.2.2 nm B0 hnm hl0 (hu1 b hx)
        · rw [if_neg h2]; exact hb.2.2 n B (key n B h1 h2 hB) hl
  refine ⟨⟨by rw [hnt]; exact h.size, fun k => by rw [henv]; exact (h.env k).monoH hle, fun n B hB => ?_, fun n m B B' b h1 l1 h2 l2 e1 e2 => ?_, by rw [hnt]; exact h.le, fun u hu hx => ?_⟩, hle⟩
  · by_cases h1 : n = d
    · subst h1
      rw [hσ, if_pos rfl] at hB
      simp only [Option.some.injEq] at hB
      subst hB
      simpa using hB2 hle
    · by_cases h2 : n = nm
      · subst h2
        rw [hσ, if_neg h1, if_pos rfl] at hB
        simp only [Option.some.injEq] at hB
        subst hB
        simpa [h1] using hB1 hle
      · simp only [if_neg h1, if_neg h2]
        exact (h.blk n B (key n B h1 h2 hB)).monoH hle fun _ _ => rfl
  · have own : ∀ n B, σ'.heap n = some B → B.live = true → Owns (if n = d then u2 else if n = nm then u1 else ref n) b → ((n = d ∧ Owns u2 b) ∨ (n = nm ∧ Owns u1 b) ∨ (n ≠ d ∧ n ≠ nm ∧ σ.heap n = some B ∧ Owns (ref n) b)) := fun n B hB hl hx => by
      by_cases h1 : n = d
      · rw [if_pos h1] at hx; exact .inl ⟨h1, hx⟩
      · rw [if_neg h1] at hx
        by_cases h2 : n = nm
        · rw [if_pos h2] at hx; exact .inr (.inl ⟨h2, hx⟩)
        · rw [if_neg h2] at hx; exact .inr (.inr ⟨h1, h2, key n B h1 h2 hB, hx⟩)
    have oth : ∀ n B, n ≠ nm → σ.heap n = some B → B.live = true → Owns (ref n) b → ¬ Owns (ref nm) b := fun n B hn hB hl hx hy => hn (h.inj n nm B B0 b hB hl hnm hl0 hx hy)
    rcases own n B h1 l1 e1 with ⟨a1, b1⟩ | ⟨a1, b1⟩ | ⟨a1, a2, a3, b1⟩ <;> rcases own m B' h2 l2 e2 with ⟨q1, p1⟩ | ⟨q1, p1⟩ | ⟨q1, q2, q3, p1⟩
    · rw [a1, q1]
    · exact (hdis b p1 b1).elim
    · exact (oth m B' q2 q3 l2 p1 (hu2 b b1)).elim
    · exact (hdis b b1 p1).elim
    · rw [a1, q1]
    · exact (oth m B' q2 q3 l2 p1 (hu1 b b1)).elim
    · exact (oth n B a2 a3 l1 b1 (hu2 b p1)).elim
    · exact (oth n B a2 a3 l1 b1 (hu1 b p1)).elim
    · exact h.inj n m B B' b a3 l1 q3 l2 b1 p1
  · have hx : σ'.heap BR ≠ none := hx
    rw [hσ, if_neg (Ne.symm hdb), if_neg (Ne.symm hnb)] at hx
    simp only [if_neg (Ne.symm hdb), if_neg (Ne.symm hnb)]
    exact h.lent u hu hx
theorem findU_two {n1 n2 : Nat} {B1 B2 : Blk} {n : Nat} {z : Option Blk} : findU [(n1, B1), (n2, B2)] n z = if n = n1 then some B1 else if n = n2 then some B2 else z := by
  simp only [findU]
  by_cases h1 : n = n1
  · subst h1; simp
  · rw [nbeq_ne h1, if_neg h1]
    by_cases h2 : n = n2
    · subst h2; simp
    · rw [nbeq_ne h2, if_neg h2]; rfl
theorem loadO_sound {h : Nat → Option Blk} {dst : Option Nat} {t : TypeId} {x : AV} {r : Res} {u : Value} (hrep : RepAt base σ a w ref) (hdk : dstOk σ dst = true) (hsub : ∀ n B, h n = some B → B.live = true → σ.heap n = some B) (hfr : ∀ d, dst = some d → h d = none → σ.heap d = none) (hr : resLoadO P h dst t x = some r)
    (hp : r.need.ok) (hx : Den (cxOf base σ w ref) x u) :
    ∃ v' ref', (Instr.loadAt t u).run P w = .ok v' w ∧ RepAt base { σ with heap := fun n => findU r.upd n (σ.heap n) } a w ref' ∧ Den (cxOf base { σ with heap := fun n => findU r.upd n (σ.heap n) } w ref') r.val v' ∧ r.upd ≠ [] := by
  unfold resLoadO at hr
  split at hr
  · rename_i n sz nm i off d ha
    obtain ⟨ha1, ha2⟩ := aggOf_run (w := w) ha
    split at hr
    · rename_i ty xs hnm hdn
      cases hb : (Nat.beq sz ty.size && (Nat.beq (nIn ty) 1 && (!(Nat.beq nm 700000) && !(Nat.beq nm d)))) <;> rw [hb] at hr <;> simp only [cond_true, cond_false, reduceCtorEq] at hr
      simp only [Bool.and_eq_true, Bool.not_eq_true'] at hb
      obtain ⟨b1, b2, b3, b4⟩ := hb
      have e1 : sz = ty.size := Nat.eq_of_beq_eq_true b1
      have e2 : nIn ty = 1 := Nat.eq_of_beq_eq_true b2
      subst e1
      have hnbr : nm ≠ BR := fun he => by subst he; simp [BR] at b3
      split at hr
      · rename_i e l hel
        simp only [Option.some.injEq] at hr
        subst hr
        have hp : i < @List.length ty.den xs := hp
        obtain ⟨hdom, b, o, n', cap, hb, rfl⟩ := hx
        have hnm' := hsub _ _ hnm rfl
        have hdn' := hfr d rfl hdn
        obtain ⟨s, ia, z, ic, b', cap', vs, rest, tyy, pre, hrv, hpw, hs, hge, hheap, hcell, hflat, hold, hhole, hoff, hvl, hlen, hle, hpos⟩ := (show DeepRow (cxOf base σ w ref) base (ref nm) ty xs from hrep.blk _ _ hnm').open hp e2 hel
        have hb : headV (ref nm) = .slice (some ⟨b, o, none⟩) n' cap := hb
        rw [hrv] at hb
        have hb : s = .slice (some ⟨b, o, none⟩) n' cap := hb
        rw [hb] at hs
        simp only [Value.slice.injEq, Option.some.injEq, Addr.mk.injEq, and_true] at hs
        obtain ⟨⟨rfl, rfl⟩, rfl, rfl⟩ := hs
        obtain ⟨a1, n1, c1, hu⟩ := hold.slice
        have hlt : i * ty.size + off < vs.length := by
          rcases Nat.lt_or_ge (i * ty.size + off) vs.length with h | h
          · exact h
          · rw [List.getElem?_eq_none h] at hcell; simp at hcell
        have hc0 : w.cell? ⟨b, List.length pre + (i * ty.size + off), none⟩ = some z := by
          have hheap : w.heap[b]? = some (.cells (List.toArray (pre ++ (vs ++ rest))) tyy (0, 0)) := hheap
          simp only [World.cell?, hheap, Option.isSome_none, Bool.false_eq_true, if_false, List.getElem?_toArray]
          rw [List.getElem?_append_right (by omega), Nat.add_sub_cancel_left, List.getElem?_append_left hlt]
          exact hcell
        have hdbr : d ≠ BR := dst_ne hrep hdk
        have hnd : nm ≠ d := fun e => by rw [e] at hnm; rw [hdn] at hnm; simp at hnm
        have hmem : ∀ v ∈ ia ++ ic, v ∈ ia ++ (z :: ic) := fun v hv => by rcases List.mem_append.1 hv with h | h <;> simp [h]
        have hlow : ∀ v ∈ s :: (ia ++ (z :: ic)), ∀ b', blkOf v = some b' → Owns (ref nm) b' := fun v hv b' e => by rw [hrv]; exact ⟨v, hv, e⟩
        have hz1 : ∀ b', Owns z b' ↔ blkOf z = some b' := fun b' => owns_blk ⟨_, _, _, hu⟩
        obtain ⟨p1, p2⟩ := List.pairwise_cons.1 hpw
        obtain ⟨q1, q2, q3⟩ := List.pairwise_append.1 p2
        obtain ⟨r1, r2⟩ := List.pairwise_cons.1 q2
        have hpw' : (s :: (ia ++ ic)).Pairwise fun x y => ∀ b, blkOf x = some b → blkOf y ≠ some b :=
          List.pairwise_cons.2 ⟨fun v hv => p1 v (hmem v hv), List.pairwise_append.2 ⟨q1, r2, fun v hv v' hv' => q3 v hv v' (List.mem_cons_of_mem _ hv')⟩⟩
        have hz0 : ∀ v ∈ s :: (ia ++ ic), ∀ b', blkOf v = some b' → blkOf z ≠ some b' := fun v hv b' e1 e2 => by
          rcases List.mem_cons.1 hv with rfl | hv
          · exact p1 z (by simp) b' e1 e2
          · rcases List.mem_append.1 hv with hv | hv
            · exact q3 v hv z (by simp) b' e1 e2
            · exact r1 v hv b' e2 e1
        obtain ⟨hrep', hleH⟩ := hrep.split (σ' := { σ with heap := fun n => findU [(d, Blk.row e l), (nm, Blk.hole ty e xs i off d)] n (σ.heap n) }) (nm := nm) (d := d) (B1 := .hole ty e xs i off d) (B2 := .row e l) (u1 := .tuple (List.toArray (s :: (ia ++ ic)))) (u2 := z) hnm' rfl hnbr hdn' hdbr (by rw [hrv]; rfl) ⟨_, hrv⟩ (fun b' hx => by
            obtain ⟨v, hv, e⟩ := hx
            have hv : v ∈ s :: (ia ++ ic) := hv
            refine hlow v ?_ b' e
            rcases List.mem_cons.1 hv with rfl | hv
            · simp
            · exact List.mem_cons_of_mem _ (hmem v hv)) (fun b' hx => hlow z (by simp) b' ((hz1 b').1 hx)) (fun b' hx hy => by
            obtain ⟨v, hv, e⟩ := hx
            exact hz0 v hv b' e ((hz1 b').1 hy)) (fun n => findU_two) rfl rfl (fun hl => by
            refine ⟨⟨.row e l, by show findU [(d, Blk.row e l), (nm, Blk.hole ty e xs i off d)] d (σ.heap d) = _; rw [findU_two, if_pos rfl]⟩, ?_⟩
            refine ⟨s, ia, ic, rfl, hpw', hflat, b, cap, vs, rest, tyy, pre, hb, hge, hheap, fun v hv b' e => (hrep.blk _ _ hnm').lt rfl (hlow v (List.mem_cons_of_mem _ (hmem v hv)) b' e), fun c2 B2 hm => hhole c2 B2 hm, ?_, hp, hoff, hvl, hlen, hle, hpos⟩
            show _ = some (headV (if d = d then z else _))
            rw [if_pos rfl, hu]
            rw [hcell, hu]; rfl) (fun hl => (row_plain (flat_plain hflat)).2 (RowOld.move (c := cxOf base σ w ref) (B := base) (fun _ _ h => h) (fun _ _ => rfl) (fun _ h => h.flat hflat) hold))
        refine ⟨z, _, by simp [Instr.loadAt, Instr.sureAddr, loadVar, ha1, hc0], hrep', ⟨⟨.row e l, by show findU [(d, Blk.row e l), (nm, Blk.hole ty e xs i off d)] d (σ.heap d) = _; rw [findU_two, if_pos rfl]⟩, ?_, a1, n1, c1, hu⟩, by simp⟩
        show z = headV (if d = d then z else _)
        rw [if_pos rfl, hu]; rfl
      · simp at hr
    · simp at hr
  · simp at hr
/-- The hole's row comes back: the row of rows is whole. -/
theorem HoleDen.back {v u0 z : Value} {t e : Ty} {xs : List t.den} {i off : Nat} {l : List e.den} {y : t.den} {B' : Base} (h : HoleDen c base v t e xs i off u0) (ho : ∀ b, Owns v b → base.own b → B'.own b) (hw : ∀ b, Owns v b → c'.w.heap[b]? = c.w.heap[b]?) (hz : RowOld c' B' z e l) (hu : z = u0)
    (hdis : ∀ b, Owns v b → blkOf z ≠ some b) (hy : decT t (sp1 (enc t (xs.getD i t.zero)) off (.view e l)) = some y) : ∃ v', DeepRow c' B' v' t (xs.set i y) ∧ headV v' = headV v ∧ (∃ us, v = .tuple us) ∧ ∀ b, Owns v' b → Owns v b ∨ Owns z b := by
  obtain ⟨s, ia, ic, rfl, h1, h2, b, cap, vs, rest, ty, pre, hs, g1, g2, g3, g4, g5, g6, g7, g8, g9, g10, g11⟩ := h
  have hon : ∀ u' ∈ s :: (ia ++ ic), ∀ b', blkOf u' = some b' → Owns (.tuple (List.toArray (s :: (ia ++ ic)))) b' := fun u' hu' b' e => ⟨u', hu', e⟩
  have hob : blkOf s = some b := by rw [hs]; exact owns_some (a := ⟨b, List.length pre, none⟩) g11
  have hd := g4 c' B' (fun u' hu' b' e => ⟨ho b' (hon u' (List.mem_cons_of_mem _ hu') b' e), hw b' (hon u' (List.mem_cons_of_mem _ hu') b' e)⟩) z l y hz hy
  have hset : vs.set (i * t.size + off) z = vs := by
    subst hu
    apply List.ext_getElem?
    intro k
    rw [List.getElem?_set]
    split
    · rename_i hk
      subst hk
      rw [g5]
      split
      · rfl
      · rename_i hk; rw [List.getElem?_eq_none (by omega)] at g5; simp at g5
    · rfl
  rw [hset] at hd
  obtain ⟨p1, p2⟩ := List.pairwise_cons.1 h1
  obtain ⟨q1, q2, q3⟩ := List.pairwise_append.1 p2
  refine ⟨.tuple (List.toArray (s :: (ia ++ (z :: ic)))), ⟨s, _, rfl, ?_, .inr ⟨b, cap, vs, rest, ty, pre, by rw [List.length_set]; exact hs, ho b (hon s (by simp) b hob) g1, (hw b (hon s (by simp) b hob)).trans g2, hd, g9, by rw [List.length_set]; exact g10, g11⟩⟩, rfl, ⟨_, rfl⟩, fun b' hb' => ?_⟩
  · refine List.pairwise_cons.2 ⟨fun v hv b' e1 e2 => ?_, List.pairwise_append.2 ⟨q1, List.pairwise_cons.2 ⟨fun v hv b' e1 e2 => hdis b' (hon v (by simp [hv]) b' e2) e1, q2⟩, fun v hv v' hv' b' e1 e2 => ?_⟩⟩
    · rcases List.mem_append.1 hv with hv | hv
      · exact p1 v (by simp [hv]) b' e1 e2
      · rcases List.mem_cons.1 hv with rfl | hv
        · exact hdis b' (hon s (by simp) b' e1) e2
        · exact p1 v (by simp [hv]) b' e1 e2
    · rcases List.mem_cons.1 hv' with rfl | hv'
      · exact hdis b' (hon v (by simp [hv]) b' e1) e2
      · exact q3 v hv v' hv' b' e1 e2
  · obtain ⟨v, hv, e1⟩ := hb'
    have hv : v ∈ s :: (ia ++ (z :: ic)) := hv
    rcases List.mem_cons.1 hv with rfl | hv
    · exact .inl (hon v (by simp) b' e1)
    · rcases List.mem_append.1 hv with hv | hv
      · exact .inl (hon v (by simp [hv]) b' e1)
      · rcases List.mem_cons.1 hv with rfl | hv
        · exact .inr ((owns_blk hz.slice).2 e1)
        · exact .inl (hon v (by simp [hv]) b' e1)
theorem RepAt.close {nm d i off : Nat} {t e : Ty} {xs : List t.den} {l : List e.den} {y : t.den} (hrep : RepAt base σ a w ref) (hnm : σ.heap nm = some (.hole t e xs i off d)) (hd : σ.heap d = some (.row e l)) (hne : d ≠ nm) (hnb : nm ≠ BR)
    (hy : decT t (sp1 (enc t (xs.getD i t.zero)) off (.view e l)) = some y) : ∃ ref', RepAt base { σ with heap := fun n => findU [(nm, .row (.deep t) (xs.set i y)), (d, .dead)] n (σ.heap n) } a w ref' := by
  obtain ⟨_, hH⟩ := hrep.blk _ _ hnm
  have hflat : e.flat = true := by obtain ⟨_, _, _, _, _, h2, _⟩ := hH; exact h2
  have hR := hrep.blk _ _ hd
  have hold := (row_plain (flat_plain hflat)).1 hR
  have hv := BlkDen.hv hR (flat_plain hflat)
  have hv : headV (ref d) = ref d := hv
  obtain ⟨v', h1, h2, h3, h4⟩ := hH.back (c' := cxOf base σ w ref) (B' := base) (z := ref d) (fun _ _ h => h) (fun _ _ => rfl) hold hv.symm (fun b hb e => hne ((hrep.inj nm d _ _ b hnm rfl hd rfl hb ((owns_blk hold.slice).2 e)).symm)) hy
  refine ⟨_, (hrep.regroup (σ' := { σ with heap := fun n => findU [(nm, .row (.deep t) (xs.set i y)), (d, .dead)] n (σ.heap n) }) (d := nm) (ns := [d]) (B' := .row (.deep t) (xs.set i y)) (u := v') (w' := w) hnb (.inr ⟨⟨_, hnm, rfl⟩, h2, h3⟩) (fun n hn => by rw [List.mem_singleton.1 hn]; exact ⟨_, _, hd⟩) (fun hx => hne (List.mem_singleton.1 hx).symm) (fun n => by simp only [findU_two, List.mem_singleton]) rfl rfl (Nat.le_refl _) (fun _ _ _ _ => rfl) (fun b hb => ?_) (fun hle => ?_)).1⟩
  · rcases h4 b hb with h | h
    · exact .inl ⟨by rw [hnm]; simp, h⟩
    · exact .inr (.inl ⟨d, by simp, h⟩)
  · exact RowDen.move (t := .deep t) (c := cxOf base σ w ref) (B := base) (fun _ _ h => h) (fun _ _ => rfl) (fun h => by simp [Ty.isDeep] at h) h1
/-- A row comes back into the element from which one was taken. -/
theorem storeH_sound {h : Nat → Option Blk} {t : TypeId} {x v : AV} {r : Res} {u z : Value} (hrep : RepAt base σ a w ref) (hsub : ∀ n B, h n = some B → B.live = true → σ.heap n = some B) (hr : resStoreH P h t x v = some r)
    (hp : r.need.ok) (hx : Den (cxOf base σ w ref) x u) (hv : Den (cxOf base σ w ref) v z) :
    ∃ w' b o ref', (Instr.storeAt t u z).run P w = .ok () w' ∧ Wrote w w' b o ∧ base.own b ∧ RepAt base { σ with heap := fun n => findU r.upd n (σ.heap n) } a w' ref' ∧ r.val = .undef ∧ r.upd ≠ [] := by
  unfold resStoreH at hr
  split at hr
  · rename_i sz nm i off m n hs
    split at hr
    · rename_i ty e xs i0 off0 d0 e' l hnm hm
      split at hr
      · rename_i he
        subst he
        cases hb : (Nat.beq sz ty.size && (Nat.beq n 1 && (Nat.beq off off0 && (!(Nat.beq nm m) && !(Nat.beq nm 700000))))) <;> rw [hb] at hr <;> simp only [cond_true, cond_false, reduceCtorEq] at hr
        simp only [Bool.and_eq_true, Bool.not_eq_true'] at hb
        obtain ⟨b1, b2, b3, b4, b5⟩ := hb
        have e1 : sz = ty.size := Nat.eq_of_beq_eq_true b1
        have e2 : n = 1 := Nat.eq_of_beq_eq_true b2
        have e3 : off = off0 := Nat.eq_of_beq_eq_true b3
        subst e1 e2 e3
        have hnbr : nm ≠ BR := fun he => by subst he; simp [BR] at b5
        have hnem : m ≠ nm := fun he => by subst he; simp at b4
        split at hr
        · rename_i y hy
          simp only [Option.some.injEq] at hr
          subst hr
          have hp : i = i0 := hp
          subst hp
          have hnm' := hsub _ _ hnm rfl
          have hm' := hsub _ _ hm rfl
          obtain ⟨hdom, b, o, n', cap, hb, rfl⟩ := hx
          obtain ⟨_, hH⟩ := hrep.blk _ _ hnm'
          obtain ⟨s, ia, ic, hrv, h1, hflat, b', cap', vs, rest, tyy, pre, hs', hge, hheap, g3, g4, g5, g6, g7, g8, g9, g10, g11⟩ := hH
          have hrv : ref nm = .tuple (List.toArray (s :: (ia ++ ic))) := hrv
          have hb : headV (ref nm) = .slice (some ⟨b, o, none⟩) n' cap := hb
          rw [hrv] at hb
          have hb : s = .slice (some ⟨b, o, none⟩) n' cap := hb
          have hs2 := hs'
          rw [hb] at hs'
          simp only [Value.slice.injEq, Option.some.injEq, Addr.mk.injEq, and_true] at hs'
          obtain ⟨⟨rfl, rfl⟩, rfl, rfl⟩ := hs'
          have hR := hrep.blk _ _ hm'
          have hold := (row_plain (flat_plain hflat)).1 hR
          have hv2 : headV (ref m) = ref m := BlkDen.hv hR (flat_plain hflat)
          obtain ⟨_, hz, az, nz, cz, hzs⟩ := hv
          have hz : z = ref m := hz.trans hv2
          subst hz
          have hin : i * ty.size + off < vs.length := by
            rcases Nat.lt_or_ge (i * ty.size + off) vs.length with h | h
            · exact h
            · rw [List.getElem?_eq_none h] at g5; simp at g5
          have hone : (ref m).oneCell' = true ∧ (ref m).cells.toList = [ref m] := by rw [hzs]; exact ⟨rfl, rfl⟩
          obtain ⟨w', hrun, hw⟩ := storeCells_wrote (P := P) (off := List.length pre + (i * ty.size + off)) [ref m] 0 (pre ++ (vs ++ rest)) w hheap (by simpa using hone.1) (by simp; omega)
          have harr : (pre ++ (vs ++ rest)).take (List.length pre + (i * ty.size + off) + 0) ++ [ref m] ++ (pre ++ (vs ++ rest)).drop (List.length pre + (i * ty.size + off) + 0 + [ref m].length) = pre ++ ((vs.take (i * ty.size + off) ++ [ref m] ++ vs.drop (i * ty.size + off + [ref m].length)) ++ rest) := by
            exact pre_splice pre vs rest [ref m] _ (by simp; omega)
          rw [harr] at hw
          have hcel : vs.take (i * ty.size + off) ++ [ref m] ++ vs.drop (i * ty.size + off + [ref m].length) = vs.set (i * ty.size + off) (ref m) := sp1_set hin
          have hsb : blkOf s = some b := by rw [hb]; exact owns_some g11
          obtain ⟨p1, p2⟩ := List.pairwise_cons.1 h1
          have hon : ∀ v ∈ s :: (ia ++ ic), ∀ b', blkOf v = some b' → Owns (ref nm) b' := fun v hv b' e => by rw [hrv]; exact ⟨v, hv, e⟩
          have hob : Owns (ref nm) b := hon s (by simp) b hsb
          have hmb : ∀ b', Owns (ref m) b' → ¬ Owns (ref nm) b' := fun b' h1 h2 => hnem (hrep.inj m nm _ _ b' hm' rfl hnm' rfl h1 h2)
          have hw' : ∀ b', b' ≠ b → w'.heap[b']? = w.heap[b']? := hw.other
          -- what the row of rows is afterwards
          have hH' : HoleDen { cxOf base σ w ref with w := w' } base (ref nm) ty e' xs i off (ref m) := by
            refine ⟨s, ia, ic, hrv, h1, hflat, b, cap, vs.set (i * ty.size + off) (ref m), rest, tyy, pre, hs2, hge, ?_, fun u' hu' b' e => ⟨(g3 u' hu' b' e).1, by show b' < w'.heap.size; rw [hw.size]; exact (g3 u' hu' b' e).2⟩, fun c2 B2 hm2 u2 l2 y2 hr2 hy2 => ?_, ?_, g6, g7, by rw [List.length_set]; exact g8, by rw [List.length_set]; exact g9, g10, g11⟩
            · have := hw.here; rw [hcel] at this; exact this
            · have := g4 c2 B2 (fun u' hu' b' e => ?_) u2 l2 y2 hr2 hy2
              · rw [List.set_set]; exact this
              · have h3 := hm2 u' hu' b' e
                exact ⟨h3.1, h3.2.trans (hw' b' fun he => p1 u' hu' b hsb (he ▸ e))⟩
            · rw [List.getElem?_set_self hin]
          have hold' : RowOld (cxOf base σ w' ref) base (ref m) e' l := RowOld.move (c := cxOf base σ w ref) (B := base) (fun _ _ h => h) (fun b' hb' => hw' b' fun he => hmb b' hb' (he ▸ hob)) (fun _ h => h.flat hflat) hold
          obtain ⟨v', k1, k2, k3, k4⟩ := hH'.back (c' := cxOf base σ w' ref) (B' := base) (z := ref m) (fun _ _ h => h) (fun _ _ => rfl) hold' rfl (fun b' hb' e => hmb b' ((owns_blk hold.slice).2 e) hb') hy
          refine ⟨w', b, _, _, ?_, hw, hge, (hrep.regroup (σ' := { σ with heap := fun n => findU [(nm, .row (.deep ty) (xs.set i y)), (m, .dead)] n (σ.heap n) }) (d := nm) (ns := [m]) (B' := .row (.deep ty) (xs.set i y)) (u := v') (w' := w') hnbr (.inr ⟨⟨_, hnm', rfl⟩, k2, k3⟩) (fun n hn => by rw [List.mem_singleton.1 hn]; exact ⟨_, _, hm'⟩) (fun hx => hnem (List.mem_singleton.1 hx).symm) (fun n => by simp only [findU_two, List.mem_singleton]) rfl rfl (by rw [hw.size]; exact Nat.le_refl _) (fun b' _ hne _ => hw' b' fun he => hne ⟨by rw [hnm']; simp, he ▸ hob⟩) (fun b' hb' => ?_) (fun hle => ?_)).1, rfl, by simp⟩
          · have hz' : (ref m).cells.size = 1 := by rw [← Array.length_toList, hone.2]; rfl
            simp only [Instr.storeAt, Instr.sureAddr, storeVar, Sem.run_bind, Sem.run_pure, Result.andThen_ok, size_run hs, hz', ne_eq, not_true, if_false, hone.2]
            exact hrun
          · rcases k4 b' hb' with h | h
            · exact .inl ⟨by rw [hnm']; simp, h⟩
            · exact .inr (.inl ⟨m, by simp, h⟩)
          · exact RowDen.move (t := .deep ty) (c := cxOf base σ w' ref) (B := base) (fun _ _ h => h) (fun _ _ => rfl) (fun h => by simp [Ty.isDeep] at h) k1
        · simp at hr
      · simp at hr
    · simp at hr
  · simp at hr
theorem storeD_sound {h : Nat → Option Blk} {t : TypeId} {x v : AV} {r : Res} {u z : Value} (hrep : RepAt base σ a w ref) (hsub : ∀ n B, h n = some B → B.live = true → σ.heap n = some B) (hr : resStoreD P h t x v = some r)
    (hp : r.need.ok) (hx : Den (cxOf base σ w ref) x u) (hv : Den (cxOf base σ w ref) v z) :
    ∃ w' b o ref', (Instr.storeAt t u z).run P w = .ok () w' ∧ Wrote w w' b o ∧ base.own b ∧ RepAt base { σ with heap := fun n => findU r.upd n (σ.heap n) } a w' ref' ∧ r.val = .undef ∧ r.upd ≠ [] := by
  unfold resStoreD at hr
  split at hr
  · rename_i r' h1
    simp only [Option.some.injEq] at hr
    subst hr
    exact storeD1_sound hrep hsub h1 hp hx hv
  · split at hr
    · rename_i r' h1
      simp only [Option.some.injEq] at hr
      subst hr
      exact storeH_sound hrep hsub h1 hp hx hv
    · exact storeD0_sound hrep hsub hr hp hx hv
theorem Den.ofFlat1 {x : AV} {v : Value} (hf : flat1 x = true) (h : Den c x v) : Den c' x v := by
  cases x <;> first | (simp [flat1] at hf; done) | exact h
theorem DenL.ofFlat1 : ∀ {xs : List AV} {vs : List Value}, xs.all flat1 = true → DenL c xs vs → DenL c' xs vs
  | [], _, _, h => h
  | x :: xs, _, hf, h => by
    obtain ⟨v, vs', rfl, h1, h2⟩ := h
    simp only [List.all_cons, Bool.and_eq_true] at hf
    exact ⟨v, vs', rfl, h1.ofFlat1 hf.1, DenL.ofFlat1 hf.2 h2⟩
theorem Den.ofFlat1A {x : AV} {v : Value} (hf : Sx.flat1A x = true) (h : Den c x v) : Den c' x v := by
  cases x
  case agg cs =>
    obtain ⟨vs, h1, h2⟩ := h
    exact ⟨vs, h1, DenL.ofFlat1 hf h2⟩
  all_goals exact Den.ofFlat1 hf h
theorem part_load {t : TypeId} {cs : List AV} {off : Nat} {v : AV} {us : List Value} {b o : Nat} (hv : partOf P t cs off = some v) (hd : DenL c cs us) (hcell : cellsAt w b o (us.drop off)) :
    ∃ r, (Instr.loadAt t (.pointer (some ⟨b, o, none⟩))).run P w = .ok r w ∧ Den c v r := by
  unfold partOf at hv
  have hl := hd.length
  split at hv
  · rename_i n ha
    obtain ⟨h1, h2⟩ := aggOf_run (w := w) ha
    cases hb : Nat.ble (off + n) cs.length <;> rw [hb] at hv <;> simp only [cond_true, cond_false, Option.some.injEq, reduceCtorEq] at hv
    subst hv
    have hle : off + n ≤ cs.length := by simpa using hb
    have hlen : ((us.drop off).take n).length = n := by simp; omega
    have hload : (loadCells ⟨b, o, none⟩ n).run P w = .ok ((us.drop off).take n).toArray w := by
      have := run_loadCells_list (P := P) (w := w) ⟨b, o, none⟩ ((us.drop off).take n) (fun j v hj => by
        rw [add_addr]
        have hj' : j < ((us.drop off).take n).length := by
          rcases Nat.lt_or_ge j ((us.drop off).take n).length with h | h
          · exact h
          · rw [List.getElem?_eq_none h] at hj; simp at hj
        rw [hlen] at hj'
        rw [hcell j (by simp; omega)]
        rw [List.getElem?_take_of_lt hj', List.getElem?_eq_getElem (by simp; omega)] at hj
        exact hj)
      rw [hlen] at this
      exact this
    exact ⟨.agg ((us.drop off).take n).toArray, by simp [Instr.loadAt, Instr.sureAddr, loadVar, h1, h2, hload], _, rfl, (hd.drop off).take n⟩
  · rename_i n ha
    obtain ⟨h1, h2⟩ := aggOf_run (w := w) ha
    obtain ⟨r, hr, hdr⟩ := hd.get off hv
    have hlt : off < us.length := by
      rcases Nat.lt_or_ge off us.length with h | h
      · exact h
      · rw [List.getElem?_eq_none h] at hr; simp at hr
    have hc0 := hcell 0 (by simp; omega)
    rw [List.getElem?_eq_getElem hlt] at hr
    simp only [Option.some.injEq] at hr
    simp only [Nat.add_zero, List.getElem_drop, hr] at hc0
    exact ⟨r, by simp [Instr.loadAt, Instr.sureAddr, loadVar, h1, hc0], hdr⟩
  · simp at hv
theorem loadF_sound {h : Nat → Option Blk} {t : TypeId} {x v : AV} {p : Nd} {u : Value} (hw : c.w = w) (hh : ∀ n B, h n = some B → BlkDen c base (c.ref n) B) (hr : resLoadF P h t x = some (p, v)) (hp : p.ok) (hx : Den c x u) :
    ∃ r, (Instr.loadAt t u).run P w = .ok r w ∧ Den c v r := by
  unfold resLoadF at hr
  split at hr
  · rename_i sz nm i off
    split at hr
    · rename_i ty xs hnm
      cases hb : Nat.beq sz ty.size <;> rw [hb] at hr <;> simp only [cond_true, cond_false, reduceCtorEq] at hr
      have e1 : sz = ty.size := Nat.eq_of_beq_eq_true hb
      subst e1
      split at hr
      · rename_i v' hv'
        cases hb2 : Sx.flat1A v' <;> rw [hb2] at hr <;> simp only [cond_true, cond_false, reduceCtorEq, Option.some.injEq, Prod.mk.injEq] at hr
        obtain ⟨rfl, rfl⟩ := hr
        have hp : i < @List.length ty.den xs := hp
        obtain ⟨hdom, b, o, n', cap, hb, rfl⟩ := hx
        have hrd := DeepRow.readsB (c := c) (ok := fun _ => True) (fun _ _ => trivial) (show DeepRow c base (c.ref nm) ty xs from hh _ _ hnm)
        obtain ⟨a0, cap0, e0, hle, hc⟩ := hrd
        simp only [List.cons.injEq, and_true] at e0
        rw [hb] at e0
        simp only [Value.slice.injEq] at e0
        obtain ⟨rfl, rfl, rfl⟩ := e0
        rcases hc with rfl | ⟨b', o', e2, _, hel⟩
        · simp at hp
        simp only [Option.some.injEq, Addr.mk.injEq, and_true] at e2
        obtain ⟨rfl, rfl⟩ := e2
        obtain ⟨us, k1, k2⟩ := hel i hp
        have hx' : @List.getD ty.den xs i ty.zero = xs[i] := by rw [List.getD_eq_getElem?_getD, List.getElem?_eq_getElem hp]; rfl
        rw [hx'] at hv'
        obtain ⟨r, hr1, hr2⟩ := part_load (P := P) (w := w) (c := { c with ok := fun _ => True }) (b := b) (o := o + (i * ty.size + off)) hv' (enc_den (t := ty) (c := { c with ok := fun _ => True }) k1) (fun j hj => by
          have h1 : j + off < us.length := by simp at hj; omega
          have := k2 (off + j) (by omega)
          rw [hw] at this
          rw [List.getElem_drop]
          rw [← this]
          congr 2
          show _ = o + i * ty.size + (off + j)
          omega)
        exact ⟨r, hr1, Den.ofFlat1A hb2 hr2⟩
      · simp at hr
    · simp at hr
  · simp at hr
end
end Sx
end Go.Proofs.Ytemlpimibhijoaa
