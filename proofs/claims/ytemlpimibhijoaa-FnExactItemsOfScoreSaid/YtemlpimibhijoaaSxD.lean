/- The evaluator is sound: parts, addresses, loads. Conditions: as each says. -/
import Derived.Test.YtemlpimibhijoaaSxC
import Derived.Laws.Cells
import Derived.Laws.StructEq
set_option linter.unusedSimpArgs false
set_option linter.unusedVariables false
namespace Go.Proofs.Ytemlpimibhijoaa
open Go.RowKit
namespace Sx
section
variable {P : Program} {base : Base} {w0 w : World} {σ : St} {a : Act} {ref : Nat → Value} {c : Cx}
theorem aggOf_run {t : TypeId} {b : Bool} {n : Nat} (h : aggOf P t = some (b, n)) : (isAgg t).run P w = .ok b w ∧ (sizeOf t).run P w = .ok n w := by
  unfold aggOf at h
  split at h <;> (try (simp at h; done))
  all_goals
    rename_i hu hi
    simp only [Option.some.injEq, Prod.mk.injEq] at h
    obtain ⟨rfl, rfl⟩ := h
    refine ⟨?_, by simp [sizeOf, typeInfo, hi]⟩
    simp only [isAgg, Go.underlying, Sem.run_bind, run_program, Result.andThen_ok, hu]
  · rfl
  · rfl
  · rename_i d i h1 h2
    cases d <;> simp
    · exact (h2 _ _ rfl).elim
    · exact (h1 _ rfl).elim
theorem part_sound {t : TypeId} {cs : List AV} {off : Nat} {v : AV} {vs : List Value} (h : partOf P t cs off = some v) (hd : DenL c cs vs) :
    ∃ r, (Go.part t vs.toArray off).run P w = .ok r w ∧ Den c v r := by
  unfold partOf at h
  have hl := hd.length
  split at h
  · rename_i n ha
    obtain ⟨h1, h2⟩ := aggOf_run (w := w) ha
    cases hb : Nat.ble (off + n) cs.length <;> rw [hb] at h <;> simp only [cond_true, cond_false, Option.some.injEq, reduceCtorEq] at h
    subst h
    refine ⟨.agg (vs.toArray.extract off (off + n)), by simp [Go.part, h1, h2], ?_⟩
    simp only [Den]
    refine ⟨(vs.drop off).take n, ?_, (hd.drop off).take n⟩
    congr 1
    simp [List.extract_eq_take_drop]
  · rename_i n ha
    obtain ⟨h1, h2⟩ := aggOf_run (w := w) ha
    obtain ⟨r, hr, hdr⟩ := hd.get off h
    exact ⟨r, by simp [Go.part, h1, hr], hdr⟩
  · simp at h
theorem eqAV_sound : ∀ {n d : Nat} {t : TypeId} {x y : AV} {b : Bool} {u v : Value}, n ≤ d → eqAV P n t x y = some b → Den c x u → Den c y v → (Op.equalIn d t u v).run P w = .ok b w
  | 0, _, _, _, _, _, _, _, _, h, _, _ => by simp [eqAV] at h
  | n + 1, 0, _, _, _, _, _, _, hnd, _, _, _ => by omega
  | n + 1, d + 1, t, x, y, b, u, v, hnd, h, hx, hy => by
    simp only [eqAV] at h
    split at h
    · rename_i k0 hu
      split at h
      · rename_i k a k' b'
        by_cases hk : k = k'
        · subst hk
          simp only [decide_true, cond_true, Option.some.injEq] at h
          subst h
          simp only [Den] at hx hy
          subst hx hy
          exact run_equalIn_int w d t k k0 a b' hu
        · simp [hk] at h
      · simp at h
    · rename_i hu
      split at h
      · rename_i a b' ha hb
        simp only [Option.some.injEq] at h
        subst h
        have e1 := toB_den ha hx
        have e2 := toB_den hb hy
        subst e1 e2
        exact run_equalIn_bool' w d t a b' hu
      · simp at h
    · rename_i hu
      split at h
      · rename_i a b'
        simp only [Option.some.injEq] at h
        subst h
        simp only [Den] at hx hy
        subst hx hy
        rw [run_equalIn_string w d t _ _ hu]
        congr 1
        rw [Bool.eq_iff_iff]; simp [ByteArray.toList_eq]
      · simp at h
    · rename_i fs hu
      split at h
      · rename_i xs ys
        cases hs : P.stoodInHeld t <;> rw [hs] at h <;> simp only [cond_true, cond_false, reduceCtorEq] at h
        obtain ⟨us, rfl, hus⟩ := hx
        obtain ⟨vs, rfl, hvs⟩ := hy
        have hf : P.fieldsOf t = fs := by simp [Program.fieldsOf, hu]
        rw [run_equalIn_struct w d t _ _ (by rw [hf]; exact hu) hs, hf]
        have key : ∀ (l : List Field) (b : Bool), eqAV.fields P (eqAV P n) xs ys l = some b → (Op.eqFields d us.toArray vs.toArray l).run P w = .ok b w := by
          intro l
          induction l with
          | nil => intro b hb; simp only [eqAV.fields, Option.some.injEq] at hb; subst hb; simp [Op.eqFields]
          | cons fd rest ih =>
            intro b hb
            simp only [eqAV.fields] at hb
            split at hb
            · rename_i pa pb hpa hpb
              cases hnm : (fd.name == "_") <;> rw [hnm] at hpa <;> simp only [cond_true, cond_false, reduceCtorEq] at hpa
              have hname : fd.name ≠ "_" := by simpa using hnm
              obtain ⟨r1, hr1, hd1⟩ := part_sound (w := w) hpa hus
              obtain ⟨r2, hr2, hd2⟩ := part_sound (w := w) hpb hvs
              have step : ∀ {p q : Bool}, eqAV P n fd.type pa pb = some p → (Op.eqFields d us.toArray vs.toArray rest).run P w = .ok q w → (Op.eqFields d us.toArray vs.toArray (fd :: rest)).run P w = .ok (p && q) w := fun {p q} hp hq => by
                have he := eqAV_sound (show n ≤ d by omega) hp hd1 hd2
                simp only [Op.eqFields, hname, ne_eq, not_false_eq_true, if_true, Sem.run_bind, hr1, Result.andThen_ok, hr2, he]
                cases p
                · simp
                · simpa using hq
              split at hb
              · have := step hb (q := true) (by simp [Op.eqFields])
                simpa using this
              · split at hb
                · rename_i p q hp hq
                  simp only [Option.some.injEq] at hb
                  subst hb
                  exact step hp (ih _ hq)
                · simp at hb
            · simp at hb
        exact key _ _ h
      · simp at h
    · simp at h
theorem eqAV_agg {n : Nat} {t : TypeId} {cs : List AV} {y : AV} {b : Bool} (h : eqAV P n t (.agg cs) y = some b) : ∃ ds, y = .agg ds := by
  cases n with
  | zero => simp [eqAV] at h
  | succ n =>
    simp only [eqAV] at h
    split at h <;> cases y <;> simp [AV.toB] at h ⊢
theorem binOp_sound {wr : Bool} {op : BinOp} {x y : AV} {p : Nd} {v : AV} {u u' : Value} {t : TypeId} {ox oy : Operand} (h : resBin P wr op t x y = some (p, v)) (hp : p.ok) (hx : Den c x u) (hy : Den c y u') :
    ∃ r, ((do eqGuard op t ox oy u u'; Go.binOp op t u u' : Sem Value)).run P w = .ok r w ∧ Den c v r := by
  unfold resBin at h
  cases ha : isAggB x <;> rw [ha] at h <;> simp only [cond_true, cond_false] at h
  · exact binOp_sound0 h hp hx hy
  · cases hg : P.eqGuardType P.depth t <;> rw [hg] at h <;> simp only [cond_true, cond_false, reduceCtorEq] at h
    have hu : (∃ us, u = .agg us) ∨ ∃ b, u = .bool b := by
      cases x <;> simp [isAggB] at ha <;> simp only [Den] at hx
      · exact .inr ⟨_, hx⟩
      · exact .inr ⟨_, hx⟩
      · obtain ⟨vs, rfl, _⟩ := hx; exact .inl ⟨_, rfl⟩
    have key : ∀ b, eqAV P 6 t x y = some b → (eqGuard op t ox oy u u').run P w = .ok () w ∧ (Op.equalIn 10000 t u u').run P w = .ok b w := fun b hb => by
      refine ⟨?_, eqAV_sound (by omega) hb hx hy⟩
      rcases hu with ⟨us, rfl⟩ | ⟨b', rfl⟩
      · have hu' : ∃ vs, u' = .agg vs := by
          cases x <;> simp only [isAggB, reduceCtorEq, Bool.false_eq_true] at ha <;> simp only [Den, reduceCtorEq] at hx
          obtain ⟨ds, rfl⟩ := eqAV_agg hb
          obtain ⟨vs, rfl, _⟩ := hy
          exact ⟨_, rfl⟩
        obtain ⟨vs, rfl⟩ := hu'
        exact run_eqGuard_agg w op t ox oy _ _ hg
      · cases op <;> simp [eqGuard]
    split at h
    · simp only [Option.map_eq_some_iff, Prod.mk.injEq] at h
      obtain ⟨b, hb, rfl, rfl⟩ := h
      obtain ⟨g1, g2⟩ := key b hb
      refine ⟨.bool b, ?_, rfl⟩
      rw [Sem.run_bind, g1]
      rcases hu with ⟨us, rfl⟩ | ⟨b', rfl⟩ <;> cases u' <;> simp_all [Go.binOp, Op.equal, Op.maxDepth]
    · simp only [Option.map_eq_some_iff, Prod.mk.injEq] at h
      obtain ⟨b, hb, rfl, rfl⟩ := h
      obtain ⟨g1, g2⟩ := key b hb
      refine ⟨.bool (!b), ?_, rfl⟩
      rw [Sem.run_bind, g1]
      rcases hu with ⟨us, rfl⟩ | ⟨b', rfl⟩ <;> cases u' <;> simp_all [Go.binOp, Op.equal, Op.maxDepth]
    · simp at h
theorem field_sound {s : TypeId} {x v : AV} {f : Nat} {p : Nd} {u : Value} (h : resField P s x f = some (p, v)) (hx : Den c x u) : ∃ r, (Instr.field s u f).run P w = .ok r w ∧ Den c v r := by
  unfold resField at h
  split at h
  · rename_i d fd cs hf
    simp only [Option.map_eq_some_iff, Prod.mk.injEq] at h
    obtain ⟨v', h, rfl, rfl⟩ := h
    obtain ⟨vs, rfl, hd⟩ := hx
    unfold fieldOf at hf
    split at hf
    · rename_i fields hu
      obtain ⟨r, hr, hdr⟩ := part_sound (w := w) h hd
      exact ⟨r, by simp [Instr.field, Go.underlying, hu, hf, asAgg, hr], hdr⟩
    · simp at hf
  · simp at h
theorem extract_sound {x v : AV} {i : Nat} {p : Nd} {u : Value} (h : resExtract x i = some (p, v)) (hx : Den c x u) : ∃ r, (Instr.extract u i).run P w = .ok r w ∧ Den c v r := by
  unfold resExtract at h
  split at h
  · rename_i vs
    simp only [Option.map_eq_some_iff, Prod.mk.injEq] at h
    obtain ⟨v', h, rfl, rfl⟩ := h
    obtain ⟨us, rfl, hd⟩ := hx
    obtain ⟨r, hr, hdr⟩ := hd.get i h
    exact ⟨r, by simp [Instr.extract, hr], hdr⟩
  · simp at h
theorem add_addr (b o n : Nat) : Addr.add ⟨b, o, none⟩ n = ⟨b, o + n, none⟩ := by
  unfold Addr.add
  split
  · rename_i h; subst h; rfl
  · rfl
theorem fieldAddr_sound {s : TypeId} {x v : AV} {f : Nat} {p : Nd} {u : Value} (h : resFieldAddr P s x f = some (p, v)) (hx : Den c x u) : ∃ r, (Instr.fieldAt s u f).run P w = .ok r w ∧ Den c v r := by
  unfold resFieldAddr at h
  split at h
  · rename_i fd hf
    unfold fieldOf at hf
    split at hf
    · rename_i fields hu
      by_cases hz : ((P.info? fd.type).map (·.size)).getD 0 = 0
      · simp [hz] at h
      · simp only [hz, decide_false, cond_false] at h
        cases hi : P.info? fd.type with
        | none => simp [hi] at hz
        | some i =>
          simp only [hi, Option.map_some, Option.getD_some] at hz
          have hrun : ∀ b o : Nat, (Instr.fieldAt s (.pointer (some ⟨b, o, none⟩)) f).run P w = .ok (.pointer (some ⟨b, o + fd.offset, none⟩)) w := by
            intro b o
            simp [Instr.fieldAt, Go.underlying, hu, hf, Instr.sureAddr, fieldPlace, sizeOf, typeInfo, hi, hz, add_addr]
          split at h
          · simp only [Option.some.injEq, Prod.mk.injEq] at h
            obtain ⟨rfl, rfl⟩ := h
            obtain ⟨h1, b, h2, rfl⟩ := hx
            exact ⟨_, hrun _ _, h1, b, h2, rfl⟩
          · simp only [Option.some.injEq, Prod.mk.injEq] at h
            obtain ⟨rfl, rfl⟩ := h
            obtain ⟨h1, b, o, n, cap, h2, rfl⟩ := hx
            exact ⟨_, hrun _ _, h1, b, o, n, cap, h2, by simp only [Nat.add_assoc]⟩
          · rename_i t x off
            cases hb : Nat.ble (off + fd.offset) t.size <;> rw [hb] at h <;> simp only [cond_true, cond_false, Option.some.injEq, Prod.mk.injEq, reduceCtorEq] at h
            obtain ⟨rfl, rfl⟩ := h
            obtain ⟨b, o, us, rfl, h1, h2, h3⟩ := hx
            refine ⟨_, hrun _ _, b, o + fd.offset, us, rfl, h1, h2, fun j hj => ?_⟩
            simp only [List.length_drop] at hj
            have := h3 (fd.offset + j) (by simp only [List.length_drop]; omega)
            simp only [List.getElem_drop] at this ⊢
            rw [show o + fd.offset + j = o + (fd.offset + j) by omega, this]
            simp only [show off + (fd.offset + j) = off + fd.offset + j by omega]
          · simp at h
    · simp at hf
  · simp at h
theorem elemSize_run {t : TypeId} {n : Nat} (h : elemSize P t = some n) : ∃ e, (Go.underlying t).run P w = .ok (.slice e) w ∧ (sizeOf e).run P w = .ok n w := by
  unfold elemSize at h
  split at h
  · rename_i e hu
    simp only [Option.map_eq_some_iff] at h
    obtain ⟨i, hi, rfl⟩ := h
    exact ⟨e, by simp [Go.underlying, hu], by simp [sizeOf, typeInfo, hi]⟩
  · simp at h
/-- The names' blocks as the state has them. -/
structure HeapAt (c : Cx) (base : Base) (h : Nat → Option Blk) : Prop where
  dom : ∀ n B, h n = some B → c.dom n
  blk : ∀ n B, h n = some B → BlkDen c base (c.ref n) B
/-- A heap whose rows are plain. -/
structure HeapP (c : Cx) (base : Base) (h : Nat → Option Blk) : Prop extends HeapAt c base h where
  plain : ∀ n t xs, h n = some (.row t xs) → t.isDeep = false
theorem hideD_sub {h : Nat → Option Blk} {n : Nat} {B : Blk} (hn : hideD h n = some B) : (B = .dead ∧ ∃ t xs, h n = some (.row t xs)) ∨ h n = some B := by
  unfold hideD at hn
  split at hn
  · rename_i t xs e
    cases hd : t.isDeep <;> rw [hd] at hn <;> simp only [cond_true, cond_false, Option.some.injEq] at hn
    · right; rw [e, hn]
    · exact .inl ⟨hn.symm, t, xs, e⟩
  · exact .inr hn
theorem hideD_live {h : Nat → Option Blk} {n : Nat} {B : Blk} (hn : hideD h n = some B) (hl : B.live = true) : h n = some B :=
  (hideD_sub hn).resolve_left fun c => by rw [c.1] at hl; simp [Blk.live] at hl
theorem hideD_none {h : Nat → Option Blk} {n : Nat} (hn : hideD h n = none) : h n = none := by
  unfold hideD at hn
  split at hn
  · rename_i t xs e
    cases hd : t.isDeep <;> rw [hd] at hn <;> simp at hn
  · exact hn
theorem hideD_plain {h : Nat → Option Blk} {n : Nat} {t : Ty} {xs : List t.den} (hn : hideD h n = some (.row t xs)) : t.isDeep = false := by
  unfold hideD at hn
  split at hn
  · rename_i t' xs' e
    cases hd : t'.isDeep <;> rw [hd] at hn <;> simp only [cond_true, cond_false, reduceCtorEq, Option.some.injEq] at hn
    injection hn with h1 h2
    subst h1; exact hd
  · rename_i hne
    exact (hne _ _ hn).elim
theorem HeapAt.hide {h : Nat → Option Blk} (hh : HeapAt c base h) : HeapP c base (hideD h) :=
  ⟨⟨fun n B hn => (hideD_sub hn).elim (fun ⟨_, t, xs, e⟩ => hh.dom n _ e) (hh.dom n B), fun n B hn => (hideD_sub hn).elim (fun ⟨e, _⟩ => by rw [e]; trivial) (hh.blk n B)⟩, fun _ _ _ hn => hideD_plain hn⟩
theorem RepAt.heapAt (hr : RepAt base σ a w ref) : HeapAt (cxOf base σ w ref) base σ.heap := ⟨fun _ B h => ⟨B, h⟩, hr.blk⟩
theorem HeapAt.restrict {h : Nat → Option Blk} (hh : HeapAt c base h) (ns : List Nat) : HeapAt c base (Sx.restrict h ns) :=
  ⟨fun n B hn => hh.dom n B (by unfold Sx.restrict at hn; cases hb : ns.any (Nat.beq n) <;> simp_all), fun n B hn => hh.blk n B (by unfold Sx.restrict at hn; cases hb : ns.any (Nat.beq n) <;> simp_all)⟩
theorem getD_eq {α : Type} (l : List α) (n : Nat) (d : α) (h : n < l.length) : l.getD n d = l[n] := by
  simp [List.getD, h]
theorem indexAddr_sound {h : Nat → Option Blk} {t : TypeId} {x i v : AV} {p : Nd} {u j : Value} (hh : HeapP c base h) (hr : resIndexAddr P h t x i = some (p, v)) (hp : p.ok) (hx : Den c x u) (hi : Den c i j) :
    ∃ r, (Instr.indexAt t u j).run P w = .ok r w ∧ Den c v r := by
  unfold resIndexAddr at hr
  split at hr
  · rename_i n k z hes
    obtain ⟨e, hu, hs⟩ := elemSize_run (w := w) hes
    simp only [Den] at hi
    subst hi
    split at hr
    · rename_i t' xs
      cases hb : Nat.beq n t'.size <;> rw [hb] at hr <;> simp only [cond_true, cond_false, Option.some.injEq, Prod.mk.injEq, reduceCtorEq] at hr
      obtain ⟨rfl, rfl⟩ := hr
      have hn : n = t'.size := by simpa using hb
      subst hn
      obtain ⟨ad, cap, hv, hcap, hrest⟩ := hx
      simp only [List.cons.injEq, and_true] at hv
      subst hv
      rcases hrest with rfl | ⟨b, o, rfl, hok, hel⟩
      · simp at hp; omega
      · have hz : z.toNat < xs.length := by omega
        obtain ⟨us, h1, h2⟩ := hel z.toNat hz
        refine ⟨.pointer (some ⟨b, o + z.toNat * t'.size, none⟩), ?_, ?_⟩
        · simp [Instr.indexAt, asIntOf, hu, hs, hp.1, hp.2, add_addr]
        · refine ⟨b, o + z.toNat * t'.size, us, rfl, hok, ?_, by simpa using h2⟩
          rw [getT, getD_eq _ _ _ hz]; exact h1
    · rename_i nm
      split at hr
      · rename_i t' xs hnm
        cases hb : Nat.beq n t'.size <;> rw [hb] at hr <;> simp only [cond_true, cond_false, Option.some.injEq, Prod.mk.injEq, reduceCtorEq] at hr
        obtain ⟨rfl, rfl⟩ := hr
        have hn : n = t'.size := by simpa using hb
        subst hn
        obtain ⟨h1, rfl, _⟩ := hx
        rcases (hh.blk _ _ hnm).hd (hh.plain _ _ _ hnm) with ⟨_, rfl⟩ | ⟨b, cap, vs, rest, ty, pre, hv, _⟩
        · simp at hp; omega
        · rw [hv]
          refine ⟨.pointer (some ⟨b, List.length pre + z.toNat * t'.size, none⟩), ?_, h1, b, _, _, cap, hv, by simp⟩
          simp [Instr.indexAt, asIntOf, hu, hs, hp.1, hp.2, add_addr]
      · simp at hr
    · rename_i sz nm off m
      cases hb : Nat.beq n sz <;> rw [hb] at hr <;> simp only [cond_true, cond_false, Option.some.injEq, Prod.mk.injEq, reduceCtorEq] at hr
      obtain ⟨rfl, rfl⟩ := hr
      have hn : n = sz := by simpa using hb
      subst hn
      obtain ⟨h1, b, o, N, cap, ad, cap', hv, rfl, _, _, hcase⟩ := hx
      have hp : 0 ≤ z ∧ z < (m : Int) := hp
      rcases hcase with h0 | rfl
      · omega
      · refine ⟨.pointer (some ⟨b, o + (off + z.toNat) * n, none⟩), ?_, h1, b, o, N, cap, hv, by simp⟩
        simp [Instr.indexAt, asIntOf, hu, hs, hp.1, hp.2, add_addr, Nat.add_mul, Nat.add_assoc]
    · simp at hr
  · simp at hr
theorem index_sound {t : TypeId} {x i v : AV} {p : Nd} {u j : Value} (hr : resIndex P t x i = some (p, v)) (hp : p.ok) (hx : Den c x u) (hi : Den c i j) :
    ∃ r, (Instr.index t u j).run P w = .ok r w ∧ Den c v r := by
  unfold resIndex at hr
  split at hr
  · rename_i s k z hu
    simp only [Option.some.injEq, Prod.mk.injEq] at hr
    obtain ⟨rfl, rfl⟩ := hr
    simp only [Den] at hi hx
    subst hi hx
    have hz : z.toNat < s.length := by omega
    have hg : (⟨s.toArray⟩ : ByteArray)[z.toNat]? = some s[z.toNat] := by
      show (if h : z.toNat < s.toArray.size then some _ else none) = _
      rw [dif_pos (by simpa using hz)]
      rfl
    refine ⟨.int .u8 (s[z.toNat].toNat : Int), ?_, ?_⟩
    · simp only [Instr.index, asIntOf, Sem.run_bind, Sem.run_pure, Result.andThen_ok, Go.underlying, run_program, hu, hp.1, if_true, hg]
    · simp only [Den, getD_eq _ _ _ hz]
  · simp at hr
theorem cellsOfH_sound {h : Nat → Option Blk} {x : AV} {cs : List AV} {off : Nat} {p : Nd} {u : Value} (hh : HeapP c base h) (hr : cellsOfH h x = some (p, cs, off)) (hp : p.ok) (hx : Den c x u) :
    ∃ b o us, u = .pointer (some ⟨b, o, none⟩) ∧ DenL c cs us ∧ cellsAt c.w b o (us.drop off) := by
  unfold cellsOfH at hr
  split at hr
  · rename_i nm off'
    split at hr
    · rename_i cs' hnm
      simp only [Option.some.injEq, Prod.mk.injEq] at hr
      obtain ⟨rfl, rfl, rfl⟩ := hr
      obtain ⟨_, b, hb, rfl⟩ := hx
      obtain ⟨b', vs, ty, hv, _, hheap, hd⟩ := hh.blk _ _ hnm
      rw [hb] at hv
      simp only [Value.pointer.injEq, Option.some.injEq, Addr.mk.injEq, and_true] at hv
      subst hv
      refine ⟨b, off', vs, rfl, hd, fun j hj => ?_⟩
      simp only [List.length_drop] at hj
      simp [World.cell?, hheap, show off' + j < vs.length by omega]
    · simp at hr
  · rename_i sz nm i off'
    split at hr
    · rename_i t xs hnm
      cases hb : Nat.beq sz t.size <;> rw [hb] at hr <;> simp only [cond_true, cond_false, Option.some.injEq, Prod.mk.injEq, reduceCtorEq] at hr
      have hsz : sz = t.size := by simpa using hb
      subst hsz
      obtain ⟨rfl, rfl, rfl⟩ := hr
      obtain ⟨_, b, o, n, cap, hb, rfl⟩ := hx
      rcases (hh.blk _ _ hnm).hd (hh.plain _ _ _ hnm) with ⟨hv, rfl⟩ | ⟨b', cap', vs, rest, ty, pre, hv, _, hheap, hrow, hlen, hle⟩
      · simp [Nd.ok] at hp
      · rw [hb] at hv
        simp only [Value.slice.injEq, Option.some.injEq, Addr.mk.injEq, and_true] at hv
        obtain ⟨⟨rfl, rfl⟩, rfl, rfl⟩ := hv
        obtain ⟨us, h1, h2⟩ := hrow.2 i hp
        refine ⟨b, List.length pre + (i * t.size + off'), us, rfl, ?_, fun j hj => ?_⟩
        · rw [getD_eq _ _ _ hp]; exact enc_den h1
        · simp only [List.length_drop] at hj
          have h3 := h2 (off' + j) (by omega)
          rw [List.getElem?_eq_getElem (l := us) (by omega)] at h3
          have hlt : i * t.size + (off' + j) < vs.length := by
            rcases Nat.lt_or_ge (i * t.size + (off' + j)) vs.length with h | h
            · exact h
            · rw [List.getElem?_eq_none h] at h3; simp at h3
          simp only [World.cell?, hheap, Option.isSome_none, Bool.false_eq_true, if_false, List.getElem_drop]
          rw [show List.length pre + (i * t.size + off') + j = List.length pre + (i * t.size + (off' + j)) by omega]
          simp only [List.getElem?_toArray]
          rw [List.getElem?_append_right (by omega), Nat.add_sub_cancel_left, List.getElem?_append_left hlt]
          exact h3
    · simp at hr
  · simp only [Option.some.injEq, Prod.mk.injEq] at hr
    obtain ⟨rfl, rfl, rfl⟩ := hr
    obtain ⟨b, o, us, rfl, _, h2, h3⟩ := hx
    exact ⟨b, o, us, rfl, enc_den h2, h3⟩
  · simp at hr
theorem load_sound {h : Nat → Option Blk} {t : TypeId} {x v : AV} {p : Nd} {u : Value} (hw : c.w = w) (hh : HeapP c base h) (hr : resLoad P h t x = some (p, v)) (hp : p.ok) (hx : Den c x u) :
    ∃ r, (Instr.loadAt t u).run P w = .ok r w ∧ Den c v r := by
  unfold resLoad at hr
  split at hr
  · rename_i q cs off hc
    simp only [Option.map_eq_some_iff, Prod.mk.injEq] at hr
    obtain ⟨v', hv, rfl, rfl⟩ := hr
    obtain ⟨b, o, us, rfl, hd, hcell⟩ := cellsOfH_sound hh hc hp hx
    rw [hw] at hcell
    unfold partOf at hv
    have hl := hd.length
    split at hv
    · rename_i n ha
      obtain ⟨h1, h2⟩ := aggOf_run (w := w) ha
      cases hb : Nat.ble (off + n) cs.length <;> rw [hb] at hv <;> simp only [cond_true, cond_false, Option.some.injEq, reduceCtorEq] at hv
      subst hv
      have hle : off + n ≤ cs.length := by simpa using hb
      have hlen : ((us.drop off).take n).length = n := by simp; omega
      have hload : (loadCells ⟨b, o, none⟩ n).run P w = .ok ((us.drop off).take n).toArray w := by
        have := run_loadCells_list (P := P) (w := w) ⟨b, o, none⟩ ((us.drop off).take n) (fun j v hj => by
          rw [add_addr]
          have hj' : j < ((us.drop off).take n).length := by
            rcases Nat.lt_or_ge j ((us.drop off).take n).length with h | h
            · exact h
            · rw [List.getElem?_eq_none h] at hj; simp at hj
          rw [hlen] at hj'
          rw [hcell j (by simp; omega)]
          rw [List.getElem?_take_of_lt hj', List.getElem?_eq_getElem (by simp; omega)] at hj
          exact hj)
        rw [hlen] at this
        exact this
      exact ⟨.agg ((us.drop off).take n).toArray, by simp [Instr.loadAt, Instr.sureAddr, loadVar, h1, h2, hload], _, rfl, (hd.drop off).take n⟩
    · rename_i n ha
      obtain ⟨h1, h2⟩ := aggOf_run (w := w) ha
      obtain ⟨r, hr, hdr⟩ := hd.get off hv
      have hlt : off < us.length := by
        rcases Nat.lt_or_ge off us.length with h | h
        · exact h
        · rw [List.getElem?_eq_none h] at hr; simp at hr
      have hc0 := hcell 0 (by simp; omega)
      rw [List.getElem?_eq_getElem hlt] at hr
      simp only [Option.some.injEq] at hr
      simp only [Nat.add_zero, List.getElem_drop, hr] at hc0
      exact ⟨r, by simp [Instr.loadAt, Instr.sureAddr, loadVar, h1, hc0], hdr⟩
    · simp at hv
  · simp at hr
theorem lenOf_sound {h : Nat → Option Blk} {x : AV} {n : Int} {u : Value} (hh : HeapP c base h) (hr : lenOf h x = some n) (hx : Den c x u) :
    (∃ s : List UInt8, x = .str s ∧ u = .string ⟨s.toArray⟩ ∧ n = s.length) ∨ (∃ (ad : Option Addr) (m cap : Nat), (∀ s, x ≠ .str s) ∧ u = .slice ad m cap ∧ n = (m : Int)) := by
  unfold lenOf at hr
  split at hr
  · simp only [Option.some.injEq] at hr
    obtain ⟨ad, cap, hv, _⟩ := hx
    simp only [List.cons.injEq, and_true] at hv
    exact .inr ⟨ad, _, cap, by simp, hv, hr.symm⟩
  · simp only [Option.some.injEq] at hr
    exact .inl ⟨_, rfl, hx, hr.symm⟩
  · simp only [Option.some.injEq] at hr
    exact .inr ⟨_, _, _, by simp, hx, by simp [← hr]⟩
  · simp only [Option.some.injEq] at hr
    obtain ⟨a, hx⟩ := hx
    exact .inr ⟨_, _, _, by simp, hx, by simp [← hr]⟩
  · simp only [Option.some.injEq] at hr
    obtain ⟨_, b, o, N, cap, ad, cap', _, rfl, _⟩ := hx
    exact .inr ⟨_, _, _, by simp, rfl, hr.symm⟩
  · split at hr
    · rename_i nm t xs hnm
      simp only [Option.some.injEq] at hr
      obtain ⟨_, rfl, _⟩ := hx
      rcases (hh.blk _ _ hnm).hd (hh.plain _ _ _ hnm) with ⟨⟨a, hv⟩, rfl⟩ | ⟨b', cap', vs, rest, ty, pre, hv, _⟩
      · exact .inr ⟨_, _, _, by simp, hv, by simp [← hr]⟩
      · exact .inr ⟨_, _, _, by simp, hv, hr.symm⟩
    · simp at hr
  · simp at hr
theorem len_sound {h : Nat → Option Blk} {t ty : TypeId} {ts : Array TypeId} {x v : AV} {p : Nd} {u : Value} (hh : HeapP c base h) (ht : ts[0]? = some t) (hr : resLen P h t x = some (p, v)) (hx : Den c x u) :
    ∃ r, (Builtin.len_ ts ty #[u]).run P w = .ok r w ∧ Den c v r := by
  unfold resLen at hr
  split at hr
  · rename_i s hu
    simp only [Option.map_eq_some_iff, Prod.mk.injEq] at hr
    obtain ⟨n, hn, rfl, rfl⟩ := hr
    rcases lenOf_sound hh hn hx with ⟨s', _, rfl, rfl⟩ | ⟨ad, m, cap, h1, _⟩
    · exact ⟨.int .i64 (s'.length : Int), by unfold Builtin.len_; simp [ht, Go.underlying, hu, goInt]; rfl, rfl⟩
    · exact (h1 _ rfl).elim
  · simp at hr
  · rename_i hu hns
    simp only [Option.map_eq_some_iff, Prod.mk.injEq] at hr
    obtain ⟨n, hn, rfl, rfl⟩ := hr
    rcases lenOf_sound hh hn hx with ⟨s', h1, _⟩ | ⟨ad, m, cap, _, rfl, rfl⟩
    · exact (hns _ h1).elim
    · exact ⟨.int .i64 (m : Int), by unfold Builtin.len_; simp [ht, Go.underlying, hu, goInt], rfl⟩
  · simp at hr
/-! ### slices of slices and of strings -/
theorem sliceBound_run {k : IntKind} {i : Int} {y : Nat} {code : BoundsCode} (h : 0 ≤ i ∧ i ≤ (y : Int)) : (Instr.sliceBound (.int k i) y code).run P w = .ok i.toNat w := by
  simp [Instr.sliceBound, asIntOf, h]
theorem bnds_sound {isS : Bool} {len cap : Nat} {n : Int} {l hi : Option Operand} {env : Nat → AV} {b : Bnd} (hop : ∀ x, Den c (opVal env x) (a.eval x)) (hb : bnds n l.isSome hi.isSome ((l.toList ++ hi.toList).map (opVal env)) = some b) (hn : b.need) (hlen : n = (len : Int)) (hc : len ≤ cap) :
    (Instr.sliceBounds isS len cap (l.map a.eval) (hi.map a.eval) none).run P w = .ok (b.lo.toNat, b.hi.toNat, cap) w ∧ 0 ≤ b.lo ∧ b.lo ≤ b.hi ∧ b.hi ≤ (len : Int) := by
  subst hlen
  cases l with
  | none =>
    cases hi with
    | none =>
      simp only [Option.isSome_none, Option.toList_none, List.append_nil, List.map_nil, bnds, Option.some.injEq] at hb
      subst hb
      exact ⟨by simp [Instr.sliceBounds], by simp, by simp, by simp⟩
    | some y =>
      have hy := hop y
      simp only [Option.isSome_none, Option.isSome_some, Option.toList_none, Option.toList_some, List.nil_append, List.map_cons, List.map_nil] at hb
      generalize opVal env y = ay at hb hy
      unfold bnds at hb
      split at hb <;> try (simp_all; done)
      rename_i k z _ _ hl
      simp only [List.cons.injEq, and_true] at hl
      subst hl
      simp only [Option.some.injEq] at hb
      subst hb
      have hy : a.eval y = .int k z := hy
      obtain ⟨h1, h2⟩ := (hn : 0 ≤ z ∧ z ≤ (len : Int))
      refine ⟨?_, by simp, h1, h2⟩
      have hb1 := sliceBound_run (P := P) (w := w) (k := k) (i := z) (y := cap) (code := if isS then .sliceAcap else .sliceAlen) ⟨h1, by omega⟩
      simp [Instr.sliceBounds, hy, hb1]
  | some x =>
    have hx := hop x
    cases hi with
    | none =>
      simp only [Option.isSome_none, Option.isSome_some, Option.toList_none, Option.toList_some, List.append_nil, List.map_cons, List.map_nil] at hb
      generalize opVal env x = ax at hb hx
      unfold bnds at hb
      split at hb <;> try (simp_all; done)
      rename_i k z _ _ hl
      simp only [List.cons.injEq, and_true] at hl
      subst hl
      simp only [Option.some.injEq] at hb
      subst hb
      have hx : a.eval x = .int k z := hx
      obtain ⟨h1, h2⟩ := (hn : 0 ≤ z ∧ z ≤ (len : Int))
      refine ⟨?_, h1, h2, by simp⟩
      have hb1 := sliceBound_run (P := P) (w := w) (k := k) (i := z) (y := len) (code := .sliceB) ⟨h1, h2⟩
      simp [Instr.sliceBounds, hx, hb1]
    | some y =>
      have hy := hop y
      simp only [Option.isSome_some, Option.toList_some, List.cons_append, List.nil_append, List.map_cons, List.map_nil] at hb
      generalize opVal env x = ax at hb hx
      generalize opVal env y = ay at hb hy
      unfold bnds at hb
      split at hb <;> try (simp_all; done)
      rename_i k z k' z' _ _ hl
      simp only [List.cons.injEq, and_true] at hl
      obtain ⟨rfl, rfl⟩ := hl
      simp only [Option.some.injEq] at hb
      subst hb
      have hx : a.eval x = .int k z := hx
      have hy : a.eval y = .int k' z' := hy
      obtain ⟨h1, h2, h3⟩ := (hn : 0 ≤ z ∧ z ≤ z' ∧ z' ≤ (len : Int))
      refine ⟨?_, h1, h2, h3⟩
      have hb1 := sliceBound_run (P := P) (w := w) (k := k') (i := z') (y := cap) (code := if isS then .sliceAcap else .sliceAlen) ⟨by omega, by omega⟩
      have hb2 := sliceBound_run (P := P) (w := w) (k := k) (i := z) (y := z'.toNat) (code := .sliceB) ⟨h1, by omega⟩
      simp [Instr.sliceBounds, hx, hy, hb1, hb2]
theorem zero3_sound {len cap : Nat} {l hi m : Option Operand} {env : Nat → AV} {q : Prop} (hop : ∀ x, Den c (opVal env x) (a.eval x)) (hh : hi.isSome = true) (hm : m.isSome = true) (hb : zero3 l.isSome ((l.toList ++ hi.toList ++ m.toList).map (opVal env)) = some q) (hn : q) :
    (Instr.sliceBounds true len cap (l.map a.eval) (hi.map a.eval) (m.map a.eval)).run P w = .ok (0, 0, 0) w := by
  cases hi with
  | none => simp at hh
  | some y =>
    cases m with
    | none => simp at hm
    | some z =>
      have hy := hop y
      have hz := hop z
      have z0 : ∀ (k : IntKind) (y : Nat) (code : BoundsCode), (Instr.sliceBound (.int k 0) y code).run P w = .ok 0 w := fun k y code => by
        have := sliceBound_run (P := P) (w := w) (k := k) (i := 0) (y := y) (code := code) ⟨by omega, by omega⟩
        simpa using this
      cases l with
      | none =>
        simp only [Option.isSome_none, Option.toList_none, Option.toList_some, List.nil_append, List.cons_append, List.map_cons, List.map_nil] at hb
        generalize opVal env y = ay at hb hy
        generalize opVal env z = az at hb hz
        unfold zero3 at hb
        split at hb <;> try (simp_all; done)
        rename_i k u k' u' _ hl
        simp only [List.cons.injEq, and_true] at hl
        obtain ⟨rfl, rfl⟩ := hl
        simp only [Option.some.injEq] at hb
        subst hb
        obtain ⟨rfl, rfl⟩ := hn
        have hy : a.eval y = .int k 0 := hy
        have hz : a.eval z = .int k' 0 := hz
        simp [Instr.sliceBounds, hy, hz, z0]
      | some x =>
        have hx := hop x
        simp only [Option.isSome_some, Option.toList_some, List.nil_append, List.cons_append, List.map_cons, List.map_nil] at hb
        generalize opVal env x = ax at hb hx
        generalize opVal env y = ay at hb hy
        generalize opVal env z = az at hb hz
        unfold zero3 at hb
        split at hb <;> try (simp_all; done)
        rename_i k0 u0 k u k' u' _ hl
        simp only [List.cons.injEq, and_true] at hl
        obtain ⟨rfl, rfl, rfl⟩ := hl
        simp only [Option.some.injEq] at hb
        subst hb
        obtain ⟨rfl, rfl, rfl⟩ := hn
        have hx : a.eval x = .int k0 0 := hx
        have hy : a.eval y = .int k 0 := hy
        have hz : a.eval z = .int k' 0 := hz
        simp [Instr.sliceBounds, hx, hy, hz, z0]
theorem sliceLike_den {h : Nat → Option Blk} {x : AV} {u : Value} (hs : sliceLike h x = true) (hd : Den c x u) : ∃ ad n cap, u = .slice ad n cap := by
  cases x <;> simp only [sliceLike, Bool.false_eq_true] at hs
  case view t xs => obtain ⟨ad, cap, hv, _⟩ := hd; simp only [List.cons.injEq, and_true] at hv; exact ⟨_, _, _, hv⟩
  case nilS => exact ⟨_, _, _, hd⟩
  case empS => obtain ⟨ad, hd⟩ := hd; exact ⟨_, _, _, hd⟩
  case row nm => obtain ⟨_, _, h⟩ := hd; exact h
theorem cutL_length {α : Type} {xs : List α} {lo hi : Int} (h0 : 0 ≤ lo) (h1 : lo ≤ hi) (h2 : hi ≤ (xs.length : Int)) : (cutL xs lo hi).length = hi.toNat - lo.toNat := by
  simp only [cutL, List.length_drop, List.length_take]; omega
theorem slice_sound {h : Nat → Option Blk} {t : TypeId} {l hi m : Option Operand} {env : Nat → AV} {x v : AV} {p : Nd} {u : Value} (hh : HeapP c base h) (hop : ∀ x, Den c (opVal env x) (a.eval x))
    (hr : resSlice P h t l.isSome hi.isSome m.isSome x ((l.toList ++ hi.toList ++ m.toList).map (opVal env)) = some (p, v)) (hp : p.ok) (hx : Den c x u) :
    ∃ r, (Instr.slice t u (l.map a.eval) (hi.map a.eval) (m.map a.eval)).run P w = .ok r w ∧ Den c v r := by
  unfold resSlice at hr
  split at hr
  · rename_i hu
    split at hr
    · rename_i s
      cases m with
      | some m => simp at hr
      | none =>
        simp only [Option.isSome_none, cond_false, Option.toList_none, List.append_nil] at hr
        split at hr
        · rename_i b hb
          simp only [Option.some.injEq, Prod.mk.injEq] at hr
          obtain ⟨rfl, rfl⟩ := hr
          have hx : u = .string ⟨s.toArray⟩ := hx
          subst hx
          obtain ⟨g1, g2, g3, g4⟩ := bnds_sound (P := P) (w := w) (isS := false) (len := s.length) (cap := s.length) hop hb hp rfl (Nat.le_refl _)
          refine ⟨.string ((⟨s.toArray⟩ : ByteArray).extract b.lo.toNat b.hi.toNat), ?_, ?_⟩
          · have hsz : (⟨s.toArray⟩ : ByteArray).size = s.length := by simp [ByteArray.size]
            simp only [Instr.slice, Go.underlying, Sem.run_bind, run_program, Result.andThen_ok, hu, hsz, Sem.run_pure, Option.map_none, Option.isSome_none, Bool.false_eq_true, if_false]
            rw [g1]
            rfl
          · show Value.string _ = Value.string _
            congr 1
            apply ByteArray.ext
            rw [ByteArray.data_extract]
            simp [cutL, List.extract_eq_take_drop, List.drop_take]
        · simp at hr
    · simp at hr
  · rename_i e hu
    cases hi0 : (P.info? e).isNone <;> rw [hi0] at hr <;> simp only [cond_true, cond_false, reduceCtorEq] at hr
    cases hinf : P.info? e with
    | none => rw [hinf] at hi0; simp at hi0
    | some i =>
    have hsz : (sizeOf e).run P w = .ok i.size w := by simp [sizeOf, typeInfo, hinf]
    cases m with
    | some mm =>
      simp only [Option.isSome_some, cond_true] at hr
      cases hs : (sliceLike h x && hi.isSome) <;> rw [hs] at hr <;> simp only [cond_true, cond_false, reduceCtorEq] at hr
      simp only [Bool.and_eq_true] at hs
      split at hr
      · rename_i q hq
        simp only [Option.some.injEq, Prod.mk.injEq] at hr
        obtain ⟨rfl, rfl⟩ := hr
        obtain ⟨ad, n, cap, rfl⟩ := sliceLike_den hs.1 hx
        have hz := zero3_sound (P := P) (w := w) (len := n) (cap := cap) hop hs.2 rfl hq hp
        refine ⟨.slice ad 0 0, ?_, ad, rfl⟩
        simp only [Instr.slice, Go.underlying, Sem.run_bind, run_program, Result.andThen_ok, hu, Sem.run_pure]
        rw [hz]
        simp [hsz]
      · simp at hr
    | none =>
      simp only [Option.isSome_none, cond_false, Option.toList_none, List.append_nil] at hr
      split at hr
      · rename_i t' xs
        split at hr
        · rename_i n hn
          cases hb0 : Nat.beq n t'.size <;> rw [hb0] at hr <;> simp only [cond_true, cond_false, reduceCtorEq] at hr
          have hn' : n = t'.size := Nat.eq_of_beq_eq_true hb0
          split at hr
          · rename_i b hb
            simp only [Option.some.injEq, Prod.mk.injEq] at hr
            obtain ⟨rfl, rfl⟩ := hr
            obtain ⟨ad, cap, hv, hcap, hel⟩ := hx
            simp only [List.cons.injEq, and_true] at hv
            subst hv
            obtain ⟨g1, g2, g3, g4⟩ := bnds_sound (P := P) (w := w) (isS := true) (len := xs.length) (cap := cap) hop hb hp rfl hcap
            have hlen := cutL_length (xs := xs) g2 g3 g4
            have hes : i.size = t'.size := by
              simp only [elemSize, hu, hinf, Option.map_some, Option.some.injEq] at hn
              omega
            refine ⟨.slice (if cap = b.lo.toNat then ad else ad.map (·.add (b.lo.toNat * i.size))) (b.hi.toNat - b.lo.toNat) (cap - b.lo.toNat), ?_, ?_⟩
            · simp only [Instr.slice, Go.underlying, Sem.run_bind, run_program, Result.andThen_ok, hu, Sem.run_pure, Option.map_none]
              rw [g1]
              simp [hsz]
            · refine ⟨_, cap - b.lo.toNat, by rw [hlen], by rw [hlen]; omega, ?_⟩
              rcases hel with hnil | ⟨b0, o, rfl, hok, hel⟩
              · have hnil : xs = [] := hnil
                exact .inl (by rw [hnil]; simp [cutL])
              · by_cases he : cutL xs b.lo b.hi = []
                · exact .inl he
                · right
                  have hpos : 0 < (cutL xs b.lo b.hi).length := List.length_pos_iff.2 he
                  rw [hlen] at hpos
                  refine ⟨b0, o + b.lo.toNat * i.size, ?_, hok, fun j hj => ?_⟩
                  · rw [if_neg (by omega)]
                    simp [add_addr]
                  · rw [hlen] at hj
                    obtain ⟨us, k1, k2⟩ := hel (b.lo.toNat + j) (by omega)
                    refine ⟨us, ?_, ?_⟩
                    · have : (cutL xs b.lo b.hi)[j]'(by rw [hlen]; exact hj) = xs[b.lo.toNat + j]'(by omega) := by simp [cutL]
                      rw [this]; exact k1
                    · rw [hes, Nat.add_assoc, ← Nat.add_mul]; exact k2
          · simp at hr
        · simp at hr
      · rename_i nm
        split at hr
        · rename_i t' xs n hnm hn
          cases hb0 : Nat.beq n t'.size <;> rw [hb0] at hr <;> simp only [cond_true, cond_false, reduceCtorEq] at hr
          have hn' : n = t'.size := Nat.eq_of_beq_eq_true hb0
          split at hr
          · rename_i b hb
            simp only [Option.some.injEq, Prod.mk.injEq] at hr
            obtain ⟨rfl, rfl⟩ := hr
            obtain ⟨hp1, hp2⟩ : b.need ∧ 0 < xs.length := hp
            obtain ⟨hdom, rfl, _⟩ := hx
            rcases (hh.blk _ _ hnm).hd (hh.plain _ _ _ hnm) with ⟨_, rfl⟩ | ⟨b0, cap, vs, rest, ty, pre, hv, _, _, _, _, hcap, _⟩
            · simp at hp2
            have hes : i.size = t'.size := by
              simp only [elemSize, hu, hinf, Option.map_some, Option.some.injEq] at hn
              omega
            obtain ⟨g1, g2, g3, g4⟩ := bnds_sound (P := P) (w := w) (isS := true) (len := xs.length) (cap := cap) hop hb hp1 rfl hcap
            refine ⟨.slice (if cap = b.lo.toNat then some ⟨b0, List.length pre, none⟩ else (some (⟨b0, List.length pre, none⟩ : Addr)).map (·.add (b.lo.toNat * i.size))) (b.hi.toNat - b.lo.toNat) (cap - b.lo.toNat), ?_, ?_⟩
            · rw [hv]
              simp only [Instr.slice, Go.underlying, Sem.run_bind, run_program, Result.andThen_ok, hu, Sem.run_pure, Option.map_none]
              rw [g1]
              simp [hsz]
            · refine ⟨hdom, b0, _, xs.length, cap, _, _, hv, rfl, by omega, by omega, ?_⟩
              rcases Nat.eq_zero_or_pos (b.hi.toNat - b.lo.toNat) with h0 | h0
              · exact .inl h0
              · right
                rw [if_neg (by omega), hes]
                simp [add_addr]
          · simp at hr
        · simp at hr
      · simp at hr
  · simp at hr
theorem sliceAt_of {h : Nat → Option Blk} {t : TypeId} {l hi m : Bool} {x v : AV} {vs : List AV} {p : Nd} {u : Value} {lo hh mx : Option Value} (hr : resSlice P h t l hi m x vs = some (p, v)) :
    (Instr.sliceAt t u lo hh mx).run P w = (Instr.slice t u lo hh mx).run P w := by
  unfold resSlice at hr
  split at hr
  · rename_i hu
    simp [Instr.sliceAt, Go.underlying, hu]
  · rename_i e hu
    simp [Instr.sliceAt, Go.underlying, hu]
  · simp at hr
end
end Sx
end Go.Proofs.Ytemlpimibhijoaa
