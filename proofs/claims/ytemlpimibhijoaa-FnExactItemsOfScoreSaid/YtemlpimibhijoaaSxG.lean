/- The evaluator is sound: an operation as a step. Conditions: as each says. -/
import Derived.Test.YtemlpimibhijoaaSxF4
import Derived.Laws.BytesString
set_option linter.unusedSimpArgs false
set_option linter.unusedVariables false
namespace Go.Proofs.Ytemlpimibhijoaa
open Go.RowKit
namespace Sx
section
variable {P : Program} {base : Base} {w0 w w' : World} {σ : St} {a : Act} {ref : Nat → Value} {c c' : Cx} {C : FuncId → Option Ct} {wr : Bool} {o : Oper} {K : Act → World → Prop} {Q : Exit → Act → World → Prop}
theorem wp_value {v : Value} (hrun : (execOp a.eval o).run P w = .ok (.value v) w') (hK : K (a.put o.dst v) w') : o.wp P a w K Q := by
  unfold Oper.wp
  rw [hrun]
  exact hK
theorem wp_skip' (hrun : (execOp a.eval o).run P w = .ok .skip w') (hK : K (a.put o.dst Go.undef) w') : o.wp P a w K Q := by
  unfold Oper.wp
  rw [hrun]
  exact hK
theorem run_mapM {α β : Type} (g : α → Sem β) (f : α → β) : ∀ l : List α, (∀ x ∈ l, (g x).run P w = .ok (f x) w) → (l.mapM g).run P w = .ok (l.map f) w
  | [], _ => by simp
  | x :: l, h => by
    rw [List.mapM_cons]
    simp [h x (by simp), run_mapM g f l (fun y hy => h y (by simp [hy]))]
theorem build_core {t : TypeId} {parts : Array (Nat × Operand)} {avs : List AV} {p : Nd} {v : AV} (hop : DenL c avs ((parts.toList.map (·.2)).map a.eval)) (hr : resBuild P t ((parts.toList.map (·.1)).zip avs) = some (p, v)) :
    ∃ r, (Instr.build t (parts.map fun (i, x) => (i, a.eval x))).run P w = .ok r w ∧ Den c v r := by
  unfold resBuild at hr
  cases hs : isStruct P t <;> rw [hs] at hr <;> simp only [cond_true, cond_false, reduceCtorEq] at hr
  split at hr
  · rename_i z hz
    simp only [Option.map_eq_some_iff, Prod.mk.injEq] at hr
    obtain ⟨cs, hf, rfl, rfl⟩ := hr
    obtain ⟨zv, hzr, hzd⟩ := zeroOf_run (w := w) (c := c) hz
    unfold isStruct at hs
    split at hs
    · rename_i fs hu
      simp only [List.all_eq_true, Option.isSome_iff_exists] at hs
      have hplaces : (fs.mapM (m := Sem) fun f => do pure (f.offset, ← sizeOf f.type)).run P w = .ok (fs.map fun f => (f.offset, ((P.info? f.type).map (·.size)).getD 0)) w := by
        rw [Array.mapM_eq_mapM_toList, Sem.run_map]
        rw [run_mapM _ (fun f : Field => (f.offset, ((P.info? f.type).map (·.size)).getD 0)) fs.toList (fun f hf => by
          obtain ⟨i, hi⟩ := hs f hf
          simp [sizeOf, typeInfo, hi])]
        simp only [Result.andThen_ok, Result.ok.injEq, and_true]
        apply Array.ext'
        simp
      have hplace : ∀ i q, placeOf P t i = some q → (fs.map fun f => (f.offset, ((P.info? f.type).map (·.size)).getD 0))[i]? = some q := by
        intro i q hq
        simp only [placeOf, fieldOf, hu] at hq
        split at hq
        · rename_i fd hfd
          simp only [Option.map_eq_some_iff] at hq
          obtain ⟨n, hn, rfl⟩ := hq
          simp only [sizeOfT] at hn
          simp [hfd, hn]
        · simp at hq
      have hln : avs.length = parts.toList.length := by have := hop.length; simpa using this.symm
      have key : ∀ (l : List (Nat × AV)) (cs us : List AV), fillL (placeOf P t) cs l = some us →
          fillL (fun i => (fs.map fun f => (f.offset, ((P.info? f.type).map (·.size)).getD 0))[i]?) cs l = some us := by
        intro l
        induction l with
        | nil => exact fun _ _ h => h
        | cons x l ih =>
          intro cs us h
          obtain ⟨x1, x2⟩ := x
          simp only [fillL] at h ⊢
          split at h
          · rename_i off n ws hp hc
            rw [hplace _ _ hp, hc]
            cases hb : (Nat.beq ws.length n && Nat.ble (off + n) cs.length) <;> rw [hb] at h <;> simp only [cond_true, cond_false, reduceCtorEq] at h
            simp only [hb, cond_true]
            exact ih _ _ h
          · simp at h
      obtain ⟨zs, hfill, hd⟩ := fill_sound (xs := zv.cells.toList) (vals := parts.toList.map fun (i, x) => (i, a.eval x)) (key _ _ _ hf) hzd (by
          rw [List.map_fst_zip (by simp [hln])]
          simp) (by
          rw [List.map_snd_zip (by simp [hln])]
          have : (parts.toList.map fun (i, x) => (i, a.eval x)).map (·.2) = (parts.toList.map (·.2)).map a.eval := by simp
          rw [this]
          exact hop)
      refine ⟨.agg zs.toArray, ?_, zs, rfl, hd⟩
      have hpl : (parts.map fun (i, x) => (i, a.eval x)).toList = parts.toList.map fun (i, x) => (i, a.eval x) := by simp
      simp only [Instr.build, Sem.run_bind, hzr, Result.andThen_ok, Go.underlying, run_program, hu, hplaces, Sem.run_pure, hpl]
      simp only [Array.toArray_toList] at hfill
      simp only [hfill]
      rfl
    · simp at hs
  · simp at hr
theorem build_sound {t : TypeId} {parts : Array (Nat × Operand)} {env : Nat → AV} {p : Nd} {v : AV} (hop : ∀ x, Den c (opVal env x) (a.eval x)) (hr : resBuild P t ((parts.toList.map (·.1)).zip ((parts.toList.map (·.2)).map (opVal env))) = some (p, v)) :
    ∃ r, (Instr.build t (parts.map fun (i, x) => (i, a.eval x))).run P w = .ok r w ∧ Den c v r :=
  build_core (opVals_den hop _) hr
theorem no_part (d : Nat) : ∀ vs : List AV, (vs.filter isPart).length = 0 → vs.map (asRow d) = vs
  | [], _ => rfl
  | x :: vs, h => by
    cases x <;> first | (simp [isPart] at h; done) | exact congrArg _ (no_part d vs h)
theorem part_list {d sz nm off n : Nat} : ∀ {vs : List AV} {us : List Value}, firstPart vs = some (sz, nm, off, n) → (vs.filter isPart).length = 1 → DenL c vs us →
    ∃ u, Den c (.part sz nm off n) u ∧ ∀ c', c.le c' → Den c' (.row d) u → DenL c' (vs.map (asRow d)) us
  | [], _, h, _, _ => by simp [firstPart] at h
  | x :: vs, us, h, h1, hd => by
    obtain ⟨v, vs', rfl, d1, d2⟩ := hd
    by_cases hx : isPart x = true
    · cases x <;> simp [isPart] at hx
      rename_i sz' nm' off' n'
      simp only [firstPart, Option.some.injEq, Prod.mk.injEq] at h
      obtain ⟨rfl, rfl, rfl, rfl⟩ := h
      have h0 : (vs.filter isPart).length = 0 := by
        have : ((AV.part sz' nm' off' n' :: vs).filter isPart).length = (vs.filter isPart).length + 1 := rfl
        omega
      refine ⟨v, d1, fun c' hle hr => ⟨v, vs', rfl, hr, ?_⟩⟩
      rw [no_part d vs h0]
      exact d2.mono hle
    · have e1 : firstPart (x :: vs) = firstPart vs := by cases x <;> first | rfl | (simp [isPart] at hx)
      have e2 : ((x :: vs).filter isPart).length = (vs.filter isPart).length := by rw [List.filter_cons_of_neg hx]
      have e3 : asRow d x = x := by cases x <;> first | rfl | (simp [isPart] at hx)
      obtain ⟨u, g1, g2⟩ := part_list (e1 ▸ h) (e2 ▸ h1) d2
      refine ⟨u, g1, fun c' hle hr => ⟨v, vs', rfl, ?_, g2 c' hle hr⟩⟩
      rw [e3]; exact d1.mono hle
theorem buildR_sound {h : Nat → Option Blk} {dst : Option Nat} {t : TypeId} {parts : Array (Nat × Operand)} {r : Res} (hrep : RepAt base σ a w ref) (hdk : dstOk σ dst = true) (hsub : ∀ n B, h n = some B → B.live = true → σ.heap n = some B) (hpl : ∀ n t xs, h n = some (.row t xs) → t.isDeep = false) (hfr : ∀ d, dst = some d → h d = none → σ.heap d = none)
    (hop : DenL (cxOf base σ w ref) ((parts.toList.map (·.2)).map (opVal σ.env)) ((parts.toList.map (·.2)).map a.eval)) (hr : resBuildR P h dst t (parts.toList.map (·.1)) ((parts.toList.map (·.2)).map (opVal σ.env)) = some r) (hp : r.need.ok) :
    ∃ v' ref', (Instr.build t (parts.map fun (i, x) => (i, a.eval x))).run P w = .ok v' w ∧ RepAt base { σ with heap := fun n => findU r.upd n (σ.heap n) } a w ref' ∧
      Den (cxOf base { σ with heap := fun n => findU r.upd n (σ.heap n) } w ref') r.val v' ∧ r.upd ≠ [] := by
  generalize ((parts.toList.map (·.2)).map (opVal σ.env)) = avs at *
  unfold resBuildR at hr
  split at hr
  · rename_i d sz nm off n hfp
    split at hr
    · rename_i tt xs hnm hdn
      replace hdn := hfr d rfl hdn
      cases hb : (Nat.beq sz tt.size && Nat.beq (avs.filter isPart).length 1) <;> rw [hb] at hr <;> simp only [cond_true, cond_false, reduceCtorEq] at hr
      simp only [Bool.and_eq_true] at hb
      have hsz : sz = tt.size := Nat.eq_of_beq_eq_true hb.1
      have h1 : (avs.filter isPart).length = 1 := Nat.eq_of_beq_eq_true hb.2
      subst hsz
      split at hr
      · rename_i p v hbl
        simp only [Option.some.injEq] at hr
        subst hr
        have hp : 1 ≤ n := hp
        have hnm' := hsub _ _ hnm rfl
        obtain ⟨u, hpart, hall⟩ := part_list (d := d) hfp h1 hop
        obtain ⟨hdom, b, o, N, cap, ad, cap', hv, hval, hcap, hoff, hcase⟩ := hpart
        have had := hcase.resolve_left (by omega)
        subst had
        have hv0 : ref nm = .slice (some ⟨b, o, none⟩) N cap := ((hrep.blk _ _ hnm').hv (hpl _ _ _ hnm)).symm.trans hv
        have hnd : nm ≠ d := fun he => by subst he; rw [hnm'] at hdn; simp at hdn
        have hσ : ∀ m, ({ σ with heap := fun m => findU [(d, Blk.row tt ((xs.drop off).take n)), (nm, Blk.dead)] m (σ.heap m) } : St).heap m = if m = d then some (.row tt ((xs.drop off).take n)) else if m = nm then some .dead else σ.heap m := by
          intro m
          simp only [findU]
          by_cases k1 : m = d
          · subst k1; simp
          · rw [nbeq_ne k1, if_neg k1]
            by_cases k2 : m = nm
            · subst k2; simp
            · rw [nbeq_ne k2, if_neg k2]; rfl
        rcases (hrep.blk _ _ hnm').old (hpl _ _ _ hnm) with ⟨⟨ad', hv'⟩, rfl⟩ | ⟨b', capp, vs, rest, tyy, pre, hv', hown, hheap, hrow, hlen, hle, hpos⟩
        · rw [hv0] at hv'
          simp only [Value.slice.injEq] at hv'
          omega
        rw [hv0] at hv'
        simp only [Value.slice.injEq, Option.some.injEq, Addr.mk.injEq, and_true] at hv'
        obtain ⟨⟨rfl, rfl⟩, rfl, rfl⟩ := hv'
        have hl : ((xs.drop off).take n).length = n := by simp; omega
        have hvl := hrow.1
        have m1 : off * tt.size + n * tt.size ≤ vs.length := by rw [hvl, ← Nat.add_mul]; exact Nat.mul_le_mul_right _ hoff
        have hbu : ∀ b', Owns u b' → Owns (ref nm) b' ∨ w.heap.size ≤ b' := fun b' hb => by
          rw [hval] at hb
          have hb := owns_slice hb
          simp only at hb
          subst hb
          exact .inl (by rw [hv0]; exact owns_some hpos)
        have hle1 := cx_take (base := base) (σ' := { σ with heap := fun m => findU [(d, Blk.row tt ((xs.drop off).take n)), (nm, Blk.dead)] m (σ.heap m) }) (w' := w) (u := u) hnm' rfl hdn hσ (Nat.le_refl _) (fun _ _ _ => rfl) hbu
        have hR := hrep.take (σ' := { σ with heap := fun m => findU [(d, Blk.row tt ((xs.drop off).take n)), (nm, Blk.dead)] m (σ.heap m) }) (d := d) (u := u) (w' := w) hnm' rfl (dst_ne hrep hdk) hdn hσ rfl rfl (Nat.le_refl _) (fun _ _ _ => rfl) hbu (fun hle' => by
          refine (row_plain (hpl _ _ _ hnm)).2 (.inr ⟨b, cap', (vs.drop (off * tt.size)).take (n * tt.size), vs.drop (off * tt.size + n * tt.size) ++ rest, tyy, pre ++ vs.take (off * tt.size), ?_, hown, ?_, ((hrow.mono hle'.ok hle'.cell).dropN off (by omega)).takeN n (by rw [List.length_drop]; omega), ?_, by rw [hl]; omega, by omega⟩)
          · rw [hl, hval]
            simp only [List.length_append, List.length_take, Value.slice.injEq, Option.some.injEq, Addr.mk.injEq, and_true, true_and]
            omega
          · have e : pre ++ (vs ++ rest) = pre ++ vs.take (off * tt.size) ++ ((vs.drop (off * tt.size)).take (n * tt.size) ++ (vs.drop (off * tt.size + n * tt.size) ++ rest)) := by
              have e1 : vs = vs.take (off * tt.size) ++ ((vs.drop (off * tt.size)).take (n * tt.size) ++ vs.drop (off * tt.size + n * tt.size)) := by
                rw [← List.drop_drop, List.take_append_drop, List.take_append_drop]
              conv => lhs; rw [e1]
              simp only [List.append_assoc]
            rw [← e]; exact hheap
          · have e2 : (cap' + off) * tt.size = cap' * tt.size + off * tt.size := Nat.add_mul _ _ _
            have e3 : vs.length + rest.length = (cap' + off) * tt.size := by rw [hcap]; exact hlen
            simp only [List.length_take, List.length_append, List.length_drop]
            omega)
        obtain ⟨v', hrun, hden⟩ := build_core (P := P) (w := w) (hall _ hle1 ⟨⟨_, by rw [hσ, if_pos rfl]⟩, by rw [hval]; simp [cxOf], _, _, _, hval⟩) hbl
        exact ⟨v', _, hrun, hR, hden, by simp⟩
      · simp at hr
    · simp at hr
  · simp at hr
theorem findU_one {nm : Nat} {B : Blk} {h : Nat → Option Blk} (n : Nat) : findU [(nm, B)] n (h n) = if n = nm then some B else h n := by
  simp only [findU]
  by_cases he : n = nm
  · subst he; simp
  · simp [nbeq_ne he, he]
theorem Rep.fin {w' : World} {σ' : St} {dst : Option Nat} {v : AV} {u : Value} {ref : Nat → Value} (h : RepAt base σ' a w' ref) (h1 : a.defers = []) (h2 : Bel base w0 w') (h3 : base.n ≤ w'.heap.size) (hd : dstOk σ' dst = true) (hv : dst ≠ none → Den (cxOf base σ' w' ref) v u) :
    Rep base w0 (σ'.apply dst v []) (a.put dst u) w' := Rep.put h h1 h2 h3 hd hv
theorem new_sound {cs : List AV} {us : List Value} {r : Res} {ty : TypeId} {h : Nat → Option Blk} (hrep : Rep base w0 σ a w) (hfr : ∀ d, o.dst = some d → h d = none → σ.heap d = none) (hd : dstOk σ o.dst = true) (hr : resNew h o.dst cs = some r)
    (hrun : (execOp a.eval o).run P w = .ok (.value (.pointer (some ⟨w.heap.size, 0, none⟩))) { w with heap := w.heap.push (.cells us.toArray ty) }) (hden : ∀ ref, RepAt base σ a w ref → DenL (cxOf base σ w ref) cs us)
    (hK : ∀ a' w', Rep base w0 (σ.apply o.dst r.val r.upd) a' w' → K a' w') : o.wp P a w K Q := by
  obtain ⟨h1, h2, h3, ref, hrep⟩ := hrep
  unfold resNew at hr
  cases hdst : o.dst with
  | none => simp [hdst] at hr
  | some d =>
    simp only [hdst] at hr
    have hfr := hfr d hdst
    split at hr
    · rename_i hn
      simp only [Option.some.injEq] at hr
      subst hr
      replace hn := hfr hn
      refine wp_value hrun (hK _ _ ?_)
      have hσ : ∀ n, (σ.apply o.dst (.ptr d 0) [(d, Blk.box cs)]).heap n = if n = d then some (.box cs) else σ.heap n := fun n => findU_one n
      have hgrow : ∀ b, b < w.heap.size → (w.heap.push (.cells us.toArray ty))[b]? = w.heap[b]? := fun b hb => by rw [Array.getElem?_push, if_neg (by omega)]
      have hadd := hrep.add (σ' := { σ with heap := fun n => findU [(d, Blk.box cs)] n (σ.heap n) }) (nm := d) (B := .box cs) (u := .pointer (some ⟨w.heap.size, 0, none⟩)) (w' := { w with heap := w.heap.push (.cells us.toArray ty) }) (dst_ne hrep (hdst ▸ hd)) hn (fun n => findU_one n) rfl rfl
        (by simp) hgrow (fun b hb => by simp only [Owns, blkOf, Option.some.injEq] at hb; omega) ?_
      · refine Rep.fin (σ' := { σ with heap := fun n => findU [(d, Blk.box cs)] n (σ.heap n) }) (ref := fun n => if n = d then .pointer (some ⟨w.heap.size, 0, none⟩) else ref n) hadd h1 ?_ ?_ (by rw [hdst] at hd; simpa [dstOk, hdst] using hd) ?_
        · exact h2.alloc h3 _
        · simp; omega
        · intro _
          exact ⟨⟨.box cs, by simp [findU_one]⟩, w.heap.size, by simp [cxOf], rfl⟩
      · refine ⟨w.heap.size, us, ty, by simp, .inl h3, by show (w.heap.push _)[w.heap.size]? = _; simp, (hden ref hrep).mono (cx_add (base := base) hn (fun n => findU_one n) (by simp) hgrow (fun b hb => by simp only [Owns, blkOf, Option.some.injEq] at hb; omega))⟩
    · simp at hr
theorem make_sound {h : Nat → Option Blk} {dst : Option Nat} {t : TypeId} {l x : AV} {r : Res} {u u' : Value} {ref : Nat → Value} (hrep : RepAt base σ a w ref) (hdk : dstOk σ dst = true) (hbel : Bel base w0 w) (hbase : base.n ≤ w.heap.size)
    (hfr : ∀ d, dst = some d → h d = none → σ.heap d = none) (hr : resMake P h dst t l x = some r) (hp : r.need.ok) (hl : Den (cxOf base σ w ref) l u) (hx : Den (cxOf base σ w ref) x u') :
    ∃ v' w' ref', (Instr.makeSlice t u u').run P w = .ok v' w' ∧ Bel base w0 w' ∧ base.n ≤ w'.heap.size ∧ RepAt base { σ with heap := fun n => findU r.upd n (σ.heap n) } a w' ref' ∧
      Den (cxOf base { σ with heap := fun n => findU r.upd n (σ.heap n) } w' ref') r.val v' ∧ r.upd ≠ [] := by
  unfold resMake at hr
  split at hr
  · rename_i e d k z k' z' hu
    have hfr := hfr d rfl
    split at hr
    · rename_i tt cs hdn htt hz
      replace hdn := hfr hdn
      split at hr
      · rename_i y hy
        cases hb : fitsApp P e tt <;> rw [hb] at hr <;> simp only [cond_true, cond_false, reduceCtorEq, Option.some.injEq] at hr
        subst hr
        obtain ⟨h0, h1, h2⟩ := (hp : 0 ≤ z ∧ z ≤ z' ∧ z' ≤ 16777216)
        obtain ⟨i, zv, hf⟩ := fitsApp_spec hb
        have hl : u = .int k z := hl
        have hx : u' = .int k' z' := hx
        subst hl hx
        have hbytes : (i.bytes : Int) * z' ≤ 281474976710656 := by
          have h3 := small_bytes (n := z'.toNat) (b := i.bytes) (by omega) hf.bytes
          have h4 : ((z'.toNat * i.bytes : Nat) : Int) ≤ 140737488355328 := by omega
          rw [Int.natCast_mul, Int.toNat_of_nonneg (by omega), Int.mul_comm] at h4
          omega
        have hrun := run_make (P := P) w t e i zv hu hf.info hf.zero k k' z z' h0 h1 hbytes (by omega)
        rw [hf.size] at hrun
        have hread : ∀ c : Cx, Reads c.w c.ok tt y zv.cells.toList := fun c => by
          obtain ⟨v, hv, hd⟩ := zeroOf_run (w := w) (c := c) hz
          simp only [zeroValue, typeInfo, Sem.run_bind, run_program, hf.info, hf.zero, Result.andThen_ok, Sem.run_pure, Result.ok.injEq, and_true] at hv
          subst hv
          exact den_reads (decT_den hy hd)
        have hσ : ∀ n, ({ σ with heap := fun n => findU [(d, Blk.row tt (List.replicate z.toNat y))] n (σ.heap n) } : St).heap n = if n = d then some (.row tt (List.replicate z.toNat y)) else σ.heap n := by
          intro n
          simp only [findU]
          by_cases h1 : n = d
          · subst h1; simp
          · rw [nbeq_ne h1, if_neg h1]; rfl
        generalize hcs : madeCells zv.cells (z'.toNat * tt.size) = arr at hrun
        have hasz : arr.size = z'.toNat * tt.size := by rw [← hcs, size_madeCells]
        have hgrow : ∀ b, b < w.heap.size → (w.alloc (.cells arr e)).heap[b]? = w.heap[b]? := fun b hb => by
          show (w.heap.push _)[b]? = _
          rw [Array.getElem?_push, if_neg (by omega)]
        have huu : ∀ b, Owns (.slice (some ⟨w.heap.size, 0, none⟩) z.toNat z'.toNat) b → w.heap.size ≤ b := fun b hb => by
          have hb := owns_slice hb; simp only at hb; omega
        have hle := cx_add (base := base) (ref := ref) (u := .slice (some ⟨w.heap.size, 0, none⟩) z.toNat z'.toNat) (w' := w.alloc (.cells arr e)) hdn hσ (by simp) hgrow huu
        have hrow := RowAt.zeros (c := cxOf base { σ with heap := fun n => findU [(d, Blk.row tt (List.replicate z.toNat y))] n (σ.heap n) } (w.alloc (.cells arr e)) (fun n => if n = d then .slice (some ⟨w.heap.size, 0, none⟩) z.toNat z'.toNat else ref n)) (hread _) z.toNat
        refine ⟨_, _, _, hrun, hbel.alloc hbase _, by simp; omega, hrep.add (nm := d) (u := .slice (some ⟨w.heap.size, 0, none⟩) z.toNat z'.toNat) (dst_ne hrep hdk) hdn hσ rfl rfl (by simp) hgrow huu ?_, ⟨⟨_, by rw [hσ, if_pos rfl]⟩, by simp [cxOf], _, _, _, rfl⟩, by simp⟩
        have hsplit : arr.toList = arr.toList.take (z.toNat * tt.size) ++ arr.toList.drop (z.toNat * tt.size) := (List.take_append_drop _ _).symm
        have hzz : z.toNat * tt.size ≤ z'.toNat * tt.size := Nat.mul_le_mul_right _ (by omega)
        rcases Nat.eq_zero_or_pos z'.toNat with h00 | hlp
        · have hz0 : z.toNat = 0 := by omega
          exact (row_plain (tyOf_plain htt)).2 (.inl ⟨⟨_, by rw [h00, hz0]⟩, by rw [hz0]; rfl⟩)
        refine (row_plain (tyOf_plain htt)).2 (.inr ⟨w.heap.size, z'.toNat, arr.toList.take (z.toNat * tt.size), arr.toList.drop (z.toNat * tt.size), e, [], by rw [List.length_replicate]; rfl, .inl hbase, ?_, ?_, ?_, by rw [List.length_replicate]; omega, hlp⟩)
        · show (w.heap.push _)[w.heap.size]? = _
          rw [← hsplit]
          simp
        · have : arr.toList.take (z.toNat * tt.size) = (madeCells zv.cells (z.toNat * tt.size)).toList := by
            rw [← hcs]
            simp only [madeCells, Array.toList_map, Array.toList_range, ← List.map_take, List.take_range, Nat.min_eq_left hzz]
          rw [this]
          exact hrow
        · simp only [List.length_take, List.length_drop, Array.length_toList, hasz]; omega
      · simp at hr
    · simp at hr
  · simp at hr
theorem restrict_look {h h' : Nat → Option Blk} {vals : List AV} : ∀ d, o.dst = some d → restrict h (look o vals h') d = h d := by
  intro d hd
  unfold restrict look
  cases isMove o.op <;> simp [fresh1, hd]
theorem call_run {f : FuncId} {args : Array Operand} {ts : Array TypeId} (hop : o.op = .call { callee := .value (.func f), args := args, argTypes := ts }) (he : enterable P f = true) :
    (execOp a.eval o).run P w = .ok (.enter f (args.map a.eval)) w := by
  unfold enterable at he
  split at he
  · rename_i fn hf
    simp only [Bool.and_eq_true, Bool.not_eq_true', beq_eq_false_iff_ne] at he
    obtain ⟨hn, hb⟩ := he
    cases hbody : fn.body with
    | none => simp [hbody] at hb
    | some c =>
      simp [execOp, hop, resolve, Act.eval, Deferred.ofValue, invoke, callFunc, hf, hbody, hn]
  · simp at he
theorem clo_run {f : FuncId} {t : Tmp} {args : Array Operand} {ts : Array TypeId} {caps : Array Value} (hop : o.op = .call { callee := .value (.tmp t), args := args, argTypes := ts }) (ht : a.eval (.tmp t) = .func (.func f) #[] caps) (he : enterable P f = true) :
    (execOp a.eval o).run P w = .ok (.enter f (args.map a.eval ++ caps)) w := by
  unfold enterable at he
  split at he
  · rename_i fn hf
    simp only [Bool.and_eq_true, Bool.not_eq_true', beq_eq_false_iff_ne] at he
    obtain ⟨hn, hb⟩ := he
    cases hbody : fn.body with
    | none => simp [hbody] at hb
    | some c =>
      simp [execOp, hop, resolve, ht, Deferred.ofValue, invoke, callFunc, hf, hbody, hn]
  · simp at he
/-- A row that was lent comes back with other elements. -/
theorem RepAt.lentBack {σ' : St} {nm : Nat} {B B' : Blk} {ref : Nat → Value} (h : RepAt base σ a w ref) (hn : σ.heap nm = some B) (hl : B.live = true)
    (hσ : ∀ n, σ'.heap n = if n = nm then some B' else σ.heap n) (henv : σ'.env = σ.env) (hnt : σ'.nt = σ.nt) (hs : w.heap.size ≤ w'.heap.size) (hb : ∀ b, b < w.heap.size → ¬ Owns (ref nm) b → w'.heap[b]? = w.heap[b]?)
    (hB : (cxOf base σ w ref).le (cxOf base σ' w' ref) → BlkDen (cxOf base σ' w' ref) base (ref nm) B') : RepAt base σ' a w' ref ∧ (cxOf base σ w ref).le (cxOf base σ' w' ref) := by
  have hle : (cxOf base σ w ref).le (cxOf base σ' w' ref) := by
    refine ⟨fun n ⟨B1, h1⟩ => ?_, fun _ _ => rfl, fun b' h' => ⟨Nat.lt_of_lt_of_le h'.1 hs, h'.2.1, fun n B1 h1 l1 => ?_⟩, fun b' o' h' => cell_of_block (hb b' h'.1 (h'.2.2 nm B hn hl))⟩
    · by_cases he : n = nm
      · exact ⟨B', by rw [hσ, if_pos he]⟩
      · exact ⟨B1, by rw [hσ, if_neg he]; exact h1⟩
    · rw [hσ] at h1
      split at h1
      · rename_i he; subst he; exact h'.2.2 n B hn hl
      · exact h'.2.2 n B1 h1 l1
  have lt : ∀ n B1 b, σ.heap n = some B1 → B1.live = true → Owns (ref n) b → b < w.heap.size := fun n B1 b h1 l1 hb' => ((h.blk n B1 h1).lt l1 hb').2
  refine ⟨⟨by rw [hnt]; exact h.size, fun k => by rw [henv]; exact (h.env k).mono hle, fun n B1 h1 => ?_, fun n m B1 B2 b1 h1 l1 h2 l2 e1 e2 => ?_, by rw [hnt]; exact h.le, fun u' hu' hx => h.lent u' hu' (fun hy => hx (by
    rw [hσ]
    split
    · rename_i he; rw [he, hn] at hy; simp at hy
    · exact hy))⟩, hle⟩
  · rw [hσ] at h1
    split at h1
    · rename_i he
      subst he
      simp only [Option.some.injEq] at h1
      subst h1
      exact hB hle
    · rename_i he
      cases hl1 : B1.live with
      | true => exact (h.blk n B1 h1).mono hle fun b1 hb1 => hb b1 (lt n B1 b1 h1 hl1 hb1) (fun hx => he (h.inj n nm B1 B _ h1 hl1 hn hl hb1 hx))
      | false => cases B1 <;> simp [Blk.live] at hl1; trivial
  · have key : ∀ n B1, σ'.heap n = some B1 → B1.live = true → ∃ B2, σ.heap n = some B2 ∧ B2.live = true := fun n B1 h1 l1 => by
      rw [hσ] at h1
      split at h1
      · rename_i he; subst he; exact ⟨B, hn, hl⟩
      · exact ⟨B1, h1, l1⟩
    obtain ⟨C1, k1, m1⟩ := key n B1 h1 l1
    obtain ⟨C2, k2, m2⟩ := key m B2 h2 l2
    exact h.inj n m C1 C2 b1 k1 m1 k2 m2 e1 e2
theorem rowTy_spec {h : Nat → Option Blk} {nm : Nat} {t : Ty} (ht : rowTy h nm t = true) : t.okR = true ∧ ∃ xs, h nm = some (.row t xs) := by
  unfold rowTy at ht
  split at ht
  · rename_i t' xs hnm
    simp only [Bool.and_eq_true, decide_eq_true_eq] at ht
    obtain ⟨rfl, hf⟩ := ht
    exact ⟨hf, xs, hnm⟩
  · simp at ht
theorem lent_none {vals : List AV} {us : List Value} {h : Nat → Option Blk} {ref : Nat → Value} (hden : DenL (cxOf base σ w ref) vals us) (hn : AV.names.namesL vals = []) : Lent w Go.undef (vals.map (asOwn h)) us := by
  have ho := asOwnL_owns (h := h) (xs := vals)
  rw [asOwnL_map] at ho
  have hzero : ownsOf.ownsL (vals.map (asOwn h)) = [] := by
    have := ho.1
    rw [hn] at this
    exact List.eq_nil_of_length_eq_zero (by simpa using this)
  refine ⟨?_, fun t xs he => by rw [hzero] at he; simp at he, fun _ => rfl, by rw [hzero]; simp, by rw [← asOwnL_map]; exact asOwnL_names⟩
  rw [← asOwnL_map]
  exact DenL.lent (ref := ref) (fun b _ => by simp [Owns, blkOf, Go.undef]) (fun m hm => by rw [hn] at hm; simp at hm) hden
theorem lent_one {vals : List AV} {us : List Value} {h : Nat → Option Blk} {ref : Nat → Value} {nm : Nat} {t : Ty} {xs : List t.den} (hrep : RepAt base σ a w ref) (hden : DenL (cxOf base σ w ref) vals us) (hn : AV.names.namesL vals = [nm]) (hnm : h nm = some (.row t xs)) (hsub : ∀ n B, h n = some B → B.live = true → σ.heap n = some B) (hf : t.okR = true)
    (hone : ownsOf.ownsL (vals.map (asOwn h)) ≠ []) : Lent w (ref nm) (vals.map (asOwn h)) us := by
  have ho := asOwnL_owns (h := h) (xs := vals)
  rw [asOwnL_map, hn] at ho
  refine ⟨?_, fun t' xs' he => ?_, fun he => absurd he hone, by simpa using ho.1, by rw [← asOwnL_map]; exact asOwnL_names⟩
  · rw [← asOwnL_map]
    refine DenL.lent (fun b hb => hb.2.2 nm _ (hsub _ _ hnm rfl) rfl) (fun m hm => ?_) hden
    rw [hn] at hm
    have hm : m = nm := by simpa using hm
    rw [hm]
  · obtain ⟨m, hm, hmr⟩ := ho.2 ⟨t', xs'⟩ (by rw [he]; simp)
    have hm : m = nm := by simpa using hm
    subst hm
    have hb := hrep.blk _ _ (hsub _ _ hmr rfl)
    rw [hnm] at hmr
    simp only [Option.some.injEq, Blk.row.injEq] at hmr
    obtain ⟨rfl, hmr⟩ := hmr
    exact RowDen.go hb (fun b hb _ => .inr hb) (fun _ _ => rfl) (fun hp _ h => h.flat (okR_flat hf hp))
theorem enc_nameless : ∀ (t : Ty) (x : t.den), AV.names.namesL (enc t x) = []
  | .int _, _ => rfl
  | .bool, _ => rfl
  | .str, _ => rfl
  | .seq _, _ => rfl
  | .deep t, x => enc_nameless t x
  | .pair a b, x => by
    have app : ∀ (xs ys : List AV), AV.names.namesL (xs ++ ys) = AV.names.namesL xs ++ AV.names.namesL ys := by
      intro xs ys
      induction xs with
      | nil => rfl
      | cons x xs ih => simp [AV.names.namesL, ih]
    simp only [enc, app, enc_nameless a x.1, enc_nameless b x.2, List.append_nil]
mutual
/-- What names nothing is read anywhere. -/
theorem Den.free {c c' : Cx} (hok : ∀ b, c.ok b → c'.ok b) (hc : ∀ b o, c.ok b → c'.w.cell? ⟨b, o, none⟩ = c.w.cell? ⟨b, o, none⟩) : ∀ {x : AV} {v : Value}, x.names = [] → Den c x v → Den c' x v
  | .int _ _, _, _, h => h
  | .bool _, _, _, h => h
  | .lit _, _, _, h => h
  | .str _, _, _, h => h
  | .undef, _, _, h => h
  | .unk, _, _, h => h
  | .fn _, _, _, h => h
  | .nilS, _, _, h => h
  | .empS, _, _, h => h
  | .guess _, _, _, h => h
  | .ptr _ _, _, hn, _ => by simp [AV.names] at hn
  | .elt _ _ _ _, _, hn, _ => by simp [AV.names] at hn
  | .part _ _ _ _, _, hn, _ => by simp [AV.names] at hn
  | .inr _ _, _, hn, _ => by simp [AV.names] at hn
  | .row _, _, hn, _ => by simp [AV.names] at hn
  | .velt t x off, _, _, h => by
    obtain ⟨b, o, us, h1, h2, h3, h4⟩ := h
    exact ⟨b, o, us, h1, hok _ h2, h3.mono hok hc, fun j hj => (hc _ _ h2).trans (h4 j hj)⟩
  | .view t xs, _, _, h => Reads.mono hok hc h
  | .own t xs, _, _, h => Reads.mono hok hc h
  | .clo f cs, _, hn, h => by
    obtain ⟨vs, h1, h2⟩ := h
    exact ⟨vs, h1, DenL.free hok hc hn h2⟩
  | .agg cs, _, hn, h => by
    obtain ⟨vs, h1, h2⟩ := h
    exact ⟨vs, h1, DenL.free hok hc hn h2⟩
  | .tup cs, _, hn, h => by
    obtain ⟨vs, h1, h2⟩ := h
    exact ⟨vs, h1, DenL.free hok hc hn h2⟩
theorem DenL.free {c c' : Cx} (hok : ∀ b, c.ok b → c'.ok b) (hc : ∀ b o, c.ok b → c'.w.cell? ⟨b, o, none⟩ = c.w.cell? ⟨b, o, none⟩) : ∀ {xs : List AV} {vs : List Value}, AV.names.namesL xs = [] → DenL c xs vs → DenL c' xs vs
  | [], _, _, h => h
  | x :: xs, _, hn, h => by
    simp only [AV.names.namesL, List.append_eq_nil_iff] at hn
    obtain ⟨v, vs', rfl, h1, h2⟩ := h
    exact ⟨v, vs', rfl, Den.free hok hc hn.1 h1, DenL.free hok hc hn.2 h2⟩
end
mutual
theorem frzB_names {h : Nat → Option Blk} : ∀ {x : AV}, (frzB h x).names = []
  | .int _ _ => rfl
  | .bool _ => rfl
  | .lit _ => rfl
  | .str _ => rfl
  | .undef => rfl
  | .unk => rfl
  | .fn _ => rfl
  | .nilS => rfl
  | .empS => rfl
  | .guess _ => rfl
  | .ptr _ _ => rfl
  | .elt _ _ _ _ => rfl
  | .part _ _ _ _ => rfl
  | .inr _ _ => rfl
  | .velt _ _ _ => rfl
  | .view _ _ => rfl
  | .own _ _ => rfl
  | .clo _ _ => rfl
  | .tup _ => rfl
  | .row nm => by
    simp only [frzB]
    split
    · rename_i t xs e
      cases t <;> rfl
    · rfl
  | .agg cs => frzBL_names (xs := cs)
theorem frzBL_names {h : Nat → Option Blk} : ∀ {xs : List AV}, AV.names.namesL (frzB.frzBL h xs) = []
  | [] => rfl
  | x :: xs => by simp [frzB.frzBL, AV.names.namesL, frzB_names (x := x), frzBL_names (xs := xs)]
end
theorem inferC_den {h : Nat → Option Blk} {c : Cx} {d : TyD} {x : AV} {v : Value} (hi : inferC h x = some d) (hn : x.names = []) (hd : Den c x v) : Reads c.w c.ok d.t d.x [v] := by
  cases x <;> simp only [inferC, Option.some.injEq, reduceCtorEq] at hi
  case int => subst hi; rw [show v = _ from hd]; rfl
  case bool => subst hi; rw [show v = _ from hd]; rfl
  case lit => subst hi; rw [show v = _ from hd]; rfl
  case str => subst hi; rw [show v = _ from hd]; rfl
  case view => subst hi; exact hd
  case row => simp [AV.names] at hn
theorem inferL_den {h : Nat → Option Blk} {c : Cx} : ∀ {cs : List AV} {d : TyD} {vs : List Value}, inferL h cs = some d → AV.names.namesL cs = [] → DenL c cs vs → Reads c.w c.ok d.t d.x vs
  | [], _, _, hi, _, _ => by simp [inferL] at hi
  | [x], d, _, hi, hn, hd => by
    simp only [inferL] at hi
    obtain ⟨v, vs', rfl, h1, h2⟩ := hd
    simp only [DenL] at h2
    subst h2
    exact inferC_den hi (by simpa [AV.names.namesL] using hn) h1
  | x :: y :: l, d, _, hi, hn, hd => by
    simp only [inferL] at hi
    split at hi
    · rename_i a b h1 h2
      simp only [Option.some.injEq] at hi
      subst hi
      simp only [AV.names.namesL, List.append_eq_nil_iff] at hn
      obtain ⟨v, vs', rfl, g1, g2⟩ := hd
      exact ⟨[v], vs', rfl, inferC_den h1 hn.1 g1, inferL_den (cs := y :: l) h2 (by simp [AV.names.namesL, hn.2]) g2⟩
    · simp at hi
/-- A call that writes into a box: the state behind it. -/
theorem box_back {σ1 : St} {nm : Nat} {cs : List AV} {ref : Nat → Value} {d' : TyD} {w' : World} {u' : Value} (hrep : RepAt base σ1 a w ref) (hnm : σ1.heap nm = some (.box cs)) (hbase : base.n ≤ w.heap.size)
    (hB : BlkDen (afterCo w w' (ref nm) u' (cxOf base σ1 w ref).ok) (lentBo w (ref nm) (cxOf base σ1 w ref).ok) (ref nm) (.box (enc d'.t d'.x))) (hb : Bel (lentBo w (ref nm) (cxOf base σ1 w ref).ok) w w') :
    RepAt base { σ1 with heap := fun n => bif Nat.beq n nm then some (.box (enc d'.t d'.x)) else σ1.heap n } a w' ref := by
  have hown : ∀ b, Owns (ref nm) b → base.own b ∧ b < w.heap.size := fun b hbb => (hrep.blk _ _ hnm).lt rfl hbb
  have hσ : ∀ n, (bif Nat.beq n nm then some (Blk.box (enc d'.t d'.x)) else σ1.heap n) = if n = nm then some (.box (enc d'.t d'.x)) else σ1.heap n := fun n => by
    by_cases he : n = nm
    · subst he; simp
    · rw [nbeq_ne he, if_neg he]; rfl
  refine (hrep.lentBack (σ' := { σ1 with heap := fun n => bif Nat.beq n nm then some (.box (enc d'.t d'.x)) else σ1.heap n }) (B' := .box (enc d'.t d'.x)) hnm rfl hσ rfl rfl hb.size (fun b hlt hne => hb.block b hlt hne) fun hle => ?_).1
  obtain ⟨b, vs, ty, g1, g2, g3, g4⟩ := hB
  have hbb : Owns (ref nm) b := by rw [g1]; rfl
  have hok : ∀ b', (afterCo w w' (ref nm) u' (cxOf base σ1 w ref).ok).ok b' → (cxOf base { σ1 with heap := fun n => bif Nat.beq n nm then some (.box (enc d'.t d'.x)) else σ1.heap n } w' ref).ok b' := ?_
  · exact ⟨b, vs, ty, g1, (hown b hbb).1, g3, DenL.free hok (fun _ _ _ => rfl) (enc_nameless _ _) g4⟩
  intro b' hb'
  refine ⟨hb'.2.1, ?_, fun n B hn hl => ?_⟩
  · rcases hb'.1 with h6 | h6
    · exact .inl (.inl (Nat.le_trans hbase h6))
    · exact h6.2.1
  · have hn : (bif Nat.beq n nm then some (Blk.box (enc d'.t d'.x)) else σ1.heap n) = some B := hn
    rw [hσ] at hn
    split at hn
    · rename_i he; subst he; exact hb'.2.2.1
    · rcases hb'.1 with h6 | h6
      · intro hx
        have h7 : b' < w.heap.size := ((hrep.blk n B hn).lt hl hx).2
        omega
      · exact h6.2.2 n B hn hl
/-- The same, a row brought along. -/
theorem box_back_own {σ1 : St} {nm d : Nat} {cs : List AV} {ref : Nat → Value} {d' : TyD} {w' : World} {u' : Value} {t : Ty} {xs : List t.den} (hrep : RepAt base σ1 a w ref) (hnm : σ1.heap nm = some (.box cs)) (hbase : base.n ≤ w.heap.size)
    (hB : BlkDen (afterCo w w' (ref nm) u' (cxOf base σ1 w ref).ok) (lentBo w (ref nm) (cxOf base σ1 w ref).ok) (ref nm) (.box (enc d'.t d'.x))) (hb : Bel (lentBo w (ref nm) (cxOf base σ1 w ref).ok) w w')
    (hdbr : d ≠ BR) (hdn : σ1.heap d = none) (hf : t.okR = true) (hR : BlkDen (resCx (Base.of w.heap.size) w' u' True) (Base.of w.heap.size) u' (.row t xs)) :
    RepAt base { σ1 with heap := fun n => bif Nat.beq n d then some (.row t xs) else bif Nat.beq n nm then some (.box (enc d'.t d'.x)) else σ1.heap n } a w' (fun n => if n = d then u' else ref n) := by
  have hne : nm ≠ d := fun he => by subst he; rw [hnm] at hdn; simp at hdn
  have own1 : ∀ {n b : Nat}, (Base.of n).own b → n ≤ b := fun h => h.elim id False.elim
  obtain ⟨b0, vs0, ty0, e0, own0, heap0, den0⟩ := id (hrep.blk nm _ hnm)
  have heap0 : w.heap[b0]? = some (.cells (List.toArray vs0) ty0 (0, 0)) := heap0
  have hb0 : Owns (ref nm) b0 := by rw [e0]; rfl
  have hlt0 : b0 < w.heap.size := ((hrep.blk _ _ hnm).lt rfl hb0).2
  have hsz := hb.size
  obtain ⟨w1, hw1⟩ : ∃ w1 : World, w1 = { w' with heap := w'.heap.setIfInBounds b0 (.cells (List.toArray vs0) ty0 (0, 0)) } := ⟨_, rfl⟩
  have hs1 : w1.heap.size = w'.heap.size := by rw [hw1]; simp
  have hn1 : ∀ k, k ≠ b0 → w1.heap[k]? = w'.heap[k]? := fun k hk => by rw [hw1]; simp [Array.getElem?_setIfInBounds, Ne.symm hk]
  have hs0 : w1.heap[b0]? = w.heap[b0]? := by rw [hw1, heap0]; simp [Array.getElem?_setIfInBounds]; omega
  have hold : ∀ k, k < w.heap.size → w1.heap[k]? = w.heap[k]? := fun k hk => by
    by_cases he : k = b0
    · subst he; exact hs0
    · rw [hn1 k he]
      exact hb.block k hk (fun hx => he (by have hx : Owns (ref nm) k := hx; rw [e0] at hx; exact (owns_ptr.1 hx).symm))
  have hu : ∀ b, Owns u' b → w.heap.size ≤ b := fun b hb' => own1 (hR.lt rfl hb').1
  have hσd : ∀ n, (bif Nat.beq n d then some (Blk.row t xs) else σ1.heap n) = if n = d then some (.row t xs) else σ1.heap n := fun n => by
    by_cases he : n = d
    · subst he; simp
    · rw [nbeq_ne he, if_neg he]; rfl
  have hadd := hrep.add (σ' := { σ1 with heap := fun n => bif Nat.beq n d then some (.row t xs) else σ1.heap n }) (nm := d) (B := .row t xs) (u := u') (w' := w1) hdbr hdn hσd rfl rfl (by omega) hold hu
    (RowDen.go hR (fun b _ hbo => .inl (Nat.le_trans hbase (own1 hbo))) (fun b hb => hn1 b (by have := hu b hb; omega)) (fun hp _ h => h.flat (okR_flat hf hp)))
  have hrn : (if nm = d then u' else ref nm) = ref nm := if_neg hne
  have hσ : ∀ n, (bif Nat.beq n d then some (Blk.row t xs) else bif Nat.beq n nm then some (Blk.box (enc d'.t d'.x)) else σ1.heap n) = if n = nm then some (.box (enc d'.t d'.x)) else (bif Nat.beq n d then some (Blk.row t xs) else σ1.heap n) := fun n => by
    by_cases he : n = nm
    · subst he; rw [nbeq_ne hne]; simp
    · rw [nbeq_ne he, if_neg he]; rfl
  refine (hadd.lentBack (σ' := { σ1 with heap := fun n => bif Nat.beq n d then some (.row t xs) else bif Nat.beq n nm then some (.box (enc d'.t d'.x)) else σ1.heap n }) (nm := nm) (B := .box cs) (B' := .box (enc d'.t d'.x)) (w' := w') (by
      show (bif Nat.beq nm d then some (Blk.row t xs) else σ1.heap nm) = _
      rw [nbeq_ne hne]; exact hnm) rfl hσ rfl rfl (by omega) (fun b _ hx => by
      have hx : ¬ Owns (if nm = d then u' else ref nm) b := hx
      rw [hrn] at hx
      exact (hn1 b fun he => hx (by rw [he]; exact hb0)).symm) fun hle => ?_).1
  show BlkDen _ base (if nm = d then u' else ref nm) _
  rw [hrn]
  obtain ⟨b, vs, ty, g1, g2, g3, g4⟩ := hB
  have hok : ∀ b', (afterCo w w' (ref nm) u' (cxOf base σ1 w ref).ok).ok b' → (cxOf base { σ1 with heap := fun n => bif Nat.beq n d then some (.row t xs) else bif Nat.beq n nm then some (.box (enc d'.t d'.x)) else σ1.heap n } w' (fun n => if n = d then u' else ref n)).ok b' := ?_
  · exact ⟨b, vs, ty, g1, ((hrep.blk _ _ hnm).lt rfl (by rw [g1]; rfl)).1, g3, DenL.free hok (fun _ _ _ => rfl) (enc_nameless _ _) g4⟩
  intro b' hb'
  refine ⟨hb'.2.1, ?_, fun n B hn hl => ?_⟩
  · rcases hb'.1 with h6 | h6
    · exact .inl (.inl (Nat.le_trans hbase h6))
    · exact h6.2.1
  · have hn : (bif Nat.beq n d then some (Blk.row t xs) else bif Nat.beq n nm then some (Blk.box (enc d'.t d'.x)) else σ1.heap n) = some B := hn
    show ¬ Owns (if n = d then u' else ref n) b'
    by_cases hed : n = d
    · rw [if_pos hed]; exact hb'.2.2.2
    · rw [if_neg hed]
      rw [nbeq_ne hed, cond_false] at hn
      by_cases he : n = nm
      · subst he; exact hb'.2.2.1
      · rw [nbeq_ne he, cond_false] at hn
        rcases hb'.1 with h6 | h6
        · intro hx
          have h7 : b' < w.heap.size := ((hrep.blk n B hn).lt hl hx).2
          omega
        · exact h6.2.2 n B hn hl
theorem call_sound {h : Nat → Option Blk} {f : FuncId} {vals : List AV} {us : List Value} {r : Res} {ref : Nat → Value} (hC : CG P C base w) (hrep : RepAt base σ a w ref) (h1 : a.defers = []) (h2 : Bel base w0 w) (h3 : base.n ≤ w.heap.size)
    (hsub : ∀ n B, h n = some B → B.live = true → σ.heap n = some B) (hfr : ∀ d, o.dst = some d → h d = none → σ.heap d = none) (hh : HeapAt (cxOf base σ w ref) base h) (hd : dstOk σ o.dst = true) (hr : resCall P C h o.dst f vals = some r) (hp : r.need.ok) (hden : DenL (cxOf base σ w ref) vals us)
    (hrun : enterable P f = true → (execOp a.eval o).run P w = .ok (.enter f us.toArray) w) (hK : ∀ a' w', Rep base w0 (σ.apply o.dst r.val r.upd) a' w' → K a' w') : o.wp P a w K Q := by
  have hfresh : ∀ b, w.heap.size ≤ b → ∀ n B, σ.heap n = some B → B.live = true → ¬ Owns (ref n) b := fun b h6 n B hn hl hbk => by
    have h5 : b < w.heap.size := ((hrep.blk n B hn).lt hl hbk).2
    omega
  have own1 : ∀ {n b : Nat}, (Base.of n).own b → n ≤ b := fun h => h.elim id False.elim
  -- a result without rows of its own
  have plainK : ∀ {B : Base} {w' : World} {σ' : St} {ref' : Nat → Value} {v : AV} {r' : Value}, ownsOf v = [] → Gives B w' v r' → (noView v = true ∨ ∀ u b, (resCx B w' u False).ok b → (cxOf base σ' w' ref').ok b) → Den (cxOf base σ' w' ref') v r' := fun {B w' σ' ref' v r'} hno hg hok => by
    obtain ⟨u, hdr, _, _⟩ := hg
    rcases hok with hok | hok
    · have hdr := Den.noView (ok := fun _ => False) hok hdr
      rw [rowed_none hno] at hdr
      have hle : Cx.le { resCx B w' u (ownsOf v ≠ []) with ok := fun _ => False } (cxOf base σ' w' ref') := ⟨fun _ h => absurd hno h.2, fun _ h => absurd hno h.2, fun b h => h.elim, fun _ _ h => h.elim⟩
      exact hdr.mono hle
    · rw [rowed_none hno] at hdr
      have hle : (resCx B w' u (ownsOf v ≠ [])).le (cxOf base σ' w' ref') := ⟨fun _ h => absurd hno h.2, fun _ h => absurd hno h.2, fun b h => hok u b h, fun _ _ _ => rfl⟩
      exact hdr.mono hle
  unfold resCall at hr
  split at hr
  · -- a reader
    rename_i ct hct he
    split at hr
    · rename_i p v hv
      have hp'' : (eltNd h vals p).ok := by
        split at hr
        · cases hb : (noView v || ((AV.names.namesL vals).isEmpty && v.names.isEmpty)) <;> rw [hb] at hr <;> simp only [cond_true, cond_false, reduceCtorEq, Option.some.injEq] at hr
          subst hr; exact hp
        · rename_i t xs hone
          split at hr
          · split at hr
            · cases hb : (v.names.isEmpty && (noView v || (AV.names.namesL vals).isEmpty)) <;> rw [hb] at hr <;> simp only [cond_true, cond_false, reduceCtorEq, Option.some.injEq] at hr
              subst hr; exact hp
            · simp at hr
          · simp at hr
        · simp at hr
      obtain ⟨hda, hp''⟩ := DenL.arg1 hh hp'' hden
      have ⟨okc, hda, hokc⟩ : ∃ okc : Nat → Prop, DenL (pureCx w okc) (vals.map (asArg1 h)) us ∧ (AV.names.namesL vals = [] → ∀ b, okc b → (cxOf base σ w ref).ok b) := by
        by_cases hn : AV.names.namesL vals = []
        · exact ⟨_, DenL.argN1 hn hden, fun _ b hb => hb⟩
        · exact ⟨_, hda, fun h => absurd h hn⟩
      have hcall := hC.1 f _ hct _ _ _ hv hp'' w okc _ (hC.2.of h3 okc) hda
      unfold Oper.wp
      rw [hrun he, Oper.upon_enter]
      refine hcall.mono ?_
      rintro e w' ⟨r', rfl, hg, hb⟩
      have hle : w.heap.size ≤ w'.heap.size := hb.size
      have hblk : ∀ b, b < w.heap.size → w'.heap[b]? = w.heap[b]? := fun b hlt => hb.block b hlt id
      split at hr
      · rename_i hno
        cases hb2 : (noView v || ((AV.names.namesL vals).isEmpty && v.names.isEmpty)) <;> rw [hb2] at hr <;> simp only [cond_true, cond_false, reduceCtorEq, Option.some.injEq] at hr
        subst hr
        refine hK _ _ ?_
        have hgr := hrep.grow hle hblk
        simp only [Bool.or_eq_true, Bool.and_eq_true, List.isEmpty_iff] at hb2
        refine Rep.put hgr h1 (h2.trans (hb.mono h3)) (Nat.le_trans h3 hle) hd fun _ => plainK hno hg (hb2.imp id fun hnn u b hbb => ?_)
        rcases hbb.1 with h6 | h6
        · exact ⟨hbb.2.1, .inl (.inl (Nat.le_trans h3 (own1 h6))), hfresh b (own1 h6)⟩
        · have h7 := hokc hnn.1 b h6
          exact ⟨hbb.2.1, h7.2.1, h7.2.2⟩
      · rename_i t xs hone
        obtain ⟨u, hdr, hun, hown⟩ := hg
        split at hr
        · rename_i d _
          split at hr
          · rename_i hdn
            cases hb2 : (v.names.isEmpty && (noView v || (AV.names.namesL vals).isEmpty)) <;> rw [hb2] at hr <;> simp only [cond_true, cond_false, reduceCtorEq, Option.some.injEq] at hr
            subst hr
            simp only [Bool.and_eq_true, Bool.or_eq_true, List.isEmpty_iff] at hb2
            obtain ⟨hnames, hnv⟩ := hb2
            have hdd : o.dst = some d := by assumption
            replace hdn := hfr d hdd hdn
            have hB := hown t xs hone
            have hu : ∀ b, Owns u b → w.heap.size ≤ b := fun b hb => own1 (hB.lt rfl hb).1
            refine hK _ _ ?_
            have hok : AV.names.namesL vals = [] → ∀ b, ((Base.of w.heap.size okc).sees b ∧ b < w'.heap.size ∧ ¬ Owns u b) → (cxOf base { σ with heap := fun n => findU [(d, Blk.row t xs)] n (σ.heap n) } w' (fun n => if n = d then u else ref n)).ok b := by
              intro hnn b hb
              refine ⟨hb.2.1, ?_, fun n B hn hl => ?_⟩
              · rcases hb.1 with h6 | h6
                · exact .inl (.inl (Nat.le_trans h3 (own1 h6)))
                · exact (hokc hnn b h6).2.1
              · simp only [findU_one] at hn
                split at hn
                · rename_i he; subst he; simp only [if_true]; exact hb.2.2
                · rename_i he
                  simp only [if_neg he]
                  rcases hb.1 with h6 | h6
                  · exact hfresh b (own1 h6) n B hn hl
                  · exact (hokc hnn b h6).2.2 n B hn hl
            have hBB : BlkDen (cxOf base { σ with heap := fun n => findU [(d, Blk.row t xs)] n (σ.heap n) } w' (fun n => if n = d then u else ref n)) base u (.row t xs) := by
              refine RowDen.go hB (fun b _ hbo => .inl (Nat.le_trans h3 (own1 hbo))) (fun _ _ => rfl) (fun hpp vs g4 => ?_)
              rcases hnv with hnv | hnn
              · exact g4.flat (okR_flat (noView_owns (o := ⟨t, xs⟩) hnv (by rw [hone]; simp)) hpp)
              · exact g4.mono (hok hnn) (fun _ _ _ => rfl)
            have hadd := hrep.add (σ' := { σ with heap := fun n => findU [(d, Blk.row t xs)] n (σ.heap n) }) (nm := d) (B := .row t xs) (u := u) (w' := w') (dst_ne hrep (hdd ▸ hd)) hdn (fun n => findU_one n) rfl rfl hle hblk hu hBB
            refine Rep.fin (σ' := { σ with heap := fun n => findU [(d, Blk.row t xs)] n (σ.heap n) }) (ref := fun n => if n = d then u else ref n) hadd h1 (h2.trans (hb.mono h3)) (Nat.le_trans h3 hle) hd fun _ => ?_
            rcases hnv with hnv | hnn
            · exact Den.rename (c := { resCx (Base.of w.heap.size okc) w' u (ownsOf v ≠ []) with ok := fun _ => False }) (c' := (cxOf base { σ with heap := fun n => findU [(d, Blk.row t xs)] n (σ.heap n) } w' (fun n => if n = d then u else ref n))) (m := 0) (d := d) (fun _ => ⟨.row t xs, by simp [findU_one]⟩) (by simp [cxOf, resCx]) (fun _ h => h.elim) (fun _ _ _ => rfl) hnames (Den.noView hnv hdr)
            · exact Den.rename (c := resCx (Base.of w.heap.size okc) w' u (ownsOf v ≠ [])) (c' := (cxOf base { σ with heap := fun n => findU [(d, Blk.row t xs)] n (σ.heap n) } w' (fun n => if n = d then u else ref n))) (m := 0) (d := d) (fun _ => ⟨.row t xs, by simp [findU_one]⟩) (by simp [cxOf, resCx]) (hok hnn) (fun _ _ _ => rfl) hnames hdr
          · simp at hr
        · simp at hr
      · simp at hr
    · simp at hr
  · -- a writer
    rename_i ct hct he
    split at hr
    · rename_i p v ov hv hn
      cases hpl : plain v <;> rw [hpl] at hr <;> simp only [cond_true, cond_false, reduceCtorEq, Option.some.injEq] at hr
      subst hr
      have hpl' := hpl
      simp only [plain, Bool.and_eq_true, List.isEmpty_iff] at hpl
      have hcall := hC.1 f _ hct _ _ _ _ hv hp w _ _ (hC.2.lent h3 (u := Go.undef) fun b hb => by simp [Owns, blkOf, Go.undef] at hb) (lent_none (h := h) hden hn)
      unfold Oper.wp
      rw [hrun he, Oper.upon_enter]
      refine hcall.mono ?_
      rintro e w' ⟨r', rfl, hg, _, hb⟩
      have hle : w.heap.size ≤ w'.heap.size := hb.size
      have hblk : ∀ b, b < w.heap.size → w'.heap[b]? = w.heap[b]? := fun b hlt => hb.block b hlt (by simp [lentB, Owns, blkOf, Go.undef])
      refine hK _ _ (Rep.put (hrep.grow hle hblk) h1 (h2.trans (hb.lift fun k hk _ => ⟨Nat.lt_of_lt_of_le hk h3, by simp [lentB, Owns, blkOf, Go.undef]⟩)) (Nat.le_trans h3 hle) hd fun _ => plainK hpl.1 (hg hpl') (.inl hpl.2.2))
    · rename_i p v t xs nm hv hn
      cases hpl : (plain v && (rowTy h nm t && !(ownsOf.ownsL (vals.map (asOwn h))).isEmpty)) <;> rw [hpl] at hr <;> simp only [cond_true, cond_false, reduceCtorEq, Option.some.injEq] at hr
      subst hr
      simp only [Bool.and_eq_true, Bool.not_eq_true'] at hpl
      obtain ⟨hpl, hty, hne⟩ := hpl
      have hne : ownsOf.ownsL (vals.map (asOwn h)) ≠ [] := by intro he; rw [he] at hne; simp at hne
      have hpl' := hpl
      simp only [plain, Bool.and_eq_true, List.isEmpty_iff] at hpl
      obtain ⟨hf, xs0, hnm⟩ := rowTy_spec hty
      have hcall := hC.1 f _ hct _ _ _ _ hv hp w _ _ (hC.2.lent h3 (u := ref nm) fun b hb => hC.2.own_le ((hrep.blk _ _ (hsub _ _ hnm rfl)).lt rfl hb).1) (lent_one hrep hden hn hnm hsub hf hne)
      unfold Oper.wp
      rw [hrun he, Oper.upon_enter]
      refine hcall.mono ?_
      rintro e w' ⟨r', rfl, hg, hB, hb⟩
      have hle : w.heap.size ≤ w'.heap.size := hb.size
      have hnm' := hsub _ _ hnm rfl
      have hown : ∀ b, Owns (ref nm) b → base.own b ∧ b < w.heap.size := fun b hbb => (hrep.blk _ _ hnm').lt rfl hbb
      have hblk : ∀ b, b < w.heap.size → ¬ Owns (ref nm) b → w'.heap[b]? = w.heap[b]? := fun b hlt hne => hb.block b hlt hne
      have hσ : ∀ n, ({ σ with heap := fun n => findU [(nm, Blk.row t xs)] n (σ.heap n) } : St).heap n = if n = nm then some (.row t xs) else σ.heap n := fun n => findU_one n
      obtain ⟨hl1, hl2⟩ := hrep.lentBack (σ' := { σ with heap := fun n => findU [(nm, Blk.row t xs)] n (σ.heap n) }) (B' := .row t xs) hnm' rfl hσ rfl rfl hle hblk (fun _ =>
        RowDen.go (hB hne) (fun b hb _ => (hown b hb).1) (fun _ _ => rfl) (fun hp _ h => h.flat (okR_flat hf hp)))
      refine hK _ _ (Rep.fin hl1 h1 (h2.trans (hb.lift fun k hk hnb => ⟨Nat.lt_of_lt_of_le hk h3, fun hx => ?_⟩)) (Nat.le_trans h3 hle) hd fun _ => plainK hpl.1 (hg hpl') (.inl hpl.2.2))
      · rcases (hown k hx).1 with h6 | h6
        · omega
        · exact hnb h6
    · simp at hr
  · -- one that takes the row over
    rename_i ct hct he
    split at hr
    · rename_i p v nm hv hn
      split at hr
      · rename_i t xs hone
        split at hr
        · rename_i d hdst
          split at hr
          · rename_i hdn
            cases hpl : (v.names.isEmpty && noView v && (rowTy h nm t && (!(Nat.beq nm d) && !(ownsOf.ownsL (vals.map (asOwn h))).isEmpty))) <;> rw [hpl] at hr <;> simp only [cond_true, cond_false, reduceCtorEq, Option.some.injEq] at hr
            subst hr
            simp only [Bool.and_eq_true, Bool.not_eq_true', List.isEmpty_iff] at hpl
            obtain ⟨⟨hnames, hnv⟩, hty, hnd, hne⟩ := hpl
            have hne : ownsOf.ownsL (vals.map (asOwn h)) ≠ [] := by intro he; rw [he] at hne; simp at hne
            have hnd : nm ≠ d := fun he => by subst he; simp at hnd
            obtain ⟨hf, xs0, hnm⟩ := rowTy_spec hty
            have hcall := hC.1 f _ hct _ _ _ hv hp w _ _ (hC.2.lent h3 (u := ref nm) fun b hb => hC.2.own_le ((hrep.blk _ _ (hsub _ _ hnm rfl)).lt rfl hb).1) (lent_one hrep hden hn hnm hsub hf hne)
            unfold Oper.wp
            rw [hrun he, Oper.upon_enter]
            refine hcall.mono ?_
            rintro e w' ⟨r', rfl, ⟨u, hdr, hun, hown⟩, hb⟩
            have hle : w.heap.size ≤ w'.heap.size := hb.size
            have hnm' := hsub _ _ hnm rfl
            have hownb : ∀ b, Owns (ref nm) b → base.own b ∧ b < w.heap.size := fun b hbb => (hrep.blk _ _ hnm').lt rfl hbb
            replace hdn := hfr d hdst hdn
            have hB := hown t xs hone
            have hu : ∀ b, Owns u b → Owns (ref nm) b ∨ w.heap.size ≤ b := fun b hb => by
              rcases (hB.lt rfl hb).1 with h6 | h6
              · exact .inr h6
              · exact .inl h6
            have hσ : ∀ n, ({ σ with heap := fun n => findU [(d, Blk.row t xs), (nm, Blk.dead)] n (σ.heap n) } : St).heap n = if n = d then some (.row t xs) else if n = nm then some .dead else σ.heap n := by
              intro n
              simp only [findU]
              by_cases h1 : n = d
              · subst h1; simp
              · rw [nbeq_ne h1, if_neg h1]
                by_cases h2 : n = nm
                · subst h2; simp
                · rw [nbeq_ne h2, if_neg h2]; rfl
            have htake := hrep.take (σ' := { σ with heap := fun n => findU [(d, Blk.row t xs), (nm, Blk.dead)] n (σ.heap n) }) (d := d) (u := u) hnm' rfl (dst_ne hrep (hdst ▸ hd)) hdn hσ rfl rfl hle (fun b hlt hx => hb.block b hlt hx) hu (fun _ =>
              RowDen.go hB (fun b _ hbo => hbo.elim (fun h => .inl (Nat.le_trans h3 h)) (fun h => (hownb b h).1)) (fun _ _ => rfl) (fun hp _ h => h.flat (okR_flat hf hp)))
            refine hK _ _ (Rep.fin htake h1 (h2.trans (hb.lift fun k hk hnb => ⟨Nat.lt_of_lt_of_le hk h3, fun hx => ?_⟩)) (Nat.le_trans h3 hle) hd fun _ => ?_)
            · rcases (hownb k hx).1 with h6 | h6
              · omega
              · exact hnb h6
            · exact Den.rename (c := { resCx (lentB w (ref nm)) w' u (ownsOf v ≠ []) with ok := fun _ => False }) (c' := cxOf base { σ with heap := fun n => findU [(d, Blk.row t xs), (nm, Blk.dead)] n (σ.heap n) } w' (fun n => if n = d then u else ref n)) (m := 0) (d := d) (fun _ => ⟨.row t xs, by rw [hσ, if_pos rfl]⟩) (by simp [cxOf, resCx]) (fun b hb => hb.elim) (fun _ _ _ => rfl) hnames (Den.noView hnv hdr)
          · simp at hr
        · simp at hr
      · simp at hr
    · simp at hr
  · -- one that writes into a box
    rename_i ct hct he
    split at hr
    · rename_i nm off rest
      cases ho : Nat.beq off 0 <;> rw [ho] at hr <;> simp only [cond_true, cond_false, reduceCtorEq] at hr
      have ho : off = 0 := Nat.eq_of_beq_eq_true ho
      subst ho
      unfold resBox at hr
      split at hr
      · rename_i cs hnm
        split at hr
        · rename_i dd hinf hcn
          cases hro : rowsOnly h (AV.names.namesL rest) <;> rw [hro] at hr <;> simp only [cond_true, cond_false, reduceCtorEq] at hr
          split at hr
          · rename_i p v d' hv
            cases hnv : (noView v && v.names.isEmpty) <;> rw [hnv] at hr <;> simp only [cond_true, cond_false, reduceCtorEq] at hr
            simp only [Bool.and_eq_true, List.isEmpty_iff] at hnv
            obtain ⟨hnv, hvn⟩ := hnv
            have hp'' : p.ok := by
              split at hr
              · simp only [Option.some.injEq] at hr; subst hr; exact hp
              · split at hr
                · split at hr
                  · simp only [Option.some.injEq] at hr; subst hr; exact hp
                  · simp at hr
                · simp at hr
              · simp at hr
            obtain ⟨u0, us', rfl, hd0, hdr⟩ := hden
            have hns : ∀ m ∈ AV.names.namesL rest, ∃ t xs, σ.heap m = some (.row t xs) := fun m hm => by
              obtain ⟨t, xs, e⟩ := rowsOnly_spec hro m hm
              exact ⟨t, xs, hsub _ _ e rfl⟩
            have hnm' := hsub _ _ hnm rfl
            have hnr : nm ∉ AV.names.namesL rest := fun hm => by
              obtain ⟨t, xs, e⟩ := hns nm hm
              rw [hnm'] at e; simp at e
            have hrep1 := hrep.kill hns
            have hdr1 := DenL.kill hrep hns hsub (fun m hm => hm) hdr
            have hnm1 : findU (killU (AV.names.namesL rest)) nm (σ.heap nm) = some (.box cs) := by rw [findU_kill, if_neg hnr]; exact hnm'
            obtain ⟨_, bb, hbb, rfl⟩ := hd0
            have hu0 : Value.pointer (some ⟨bb, 0, none⟩) = ref nm := hbb.symm
            rw [hu0] at hrun
            have hown : ∀ b, Owns (ref nm) b → base.own b ∧ b < w.heap.size := fun b hb' => (hrep.blk _ _ hnm').lt rfl hb'
            have hokc : ∀ b', (cxOf base { σ with heap := fun n => findU (killU (AV.names.namesL rest)) n (σ.heap n) } w ref).ok b' → (lentCo w (ref nm) (cxOf base { σ with heap := fun n => findU (killU (AV.names.namesL rest)) n (σ.heap n) } w ref).ok).ok b' := fun b' hb' => ⟨hb'.1, hb', hb'.2.2 nm _ hnm1 rfl⟩
            have hcall := hC.1 f _ hct dd _ _ _ _ hv hp'' w (cxOf base { σ with heap := fun n => findU (killU (AV.names.namesL rest)) n (σ.heap n) } w ref).ok us' (ref nm) (hC.2.lentO h3 _ fun b hb' => hC.2.own_le (hown b hb').1) (by
              obtain ⟨b, vs, ty, g1, g2, g3, g4⟩ := hrep1.blk nm _ hnm1
              have hrd := inferL_den (h := h) hinf hcn g4
              exact ⟨b, vs, ty, g1, .inr (by rw [g1]; rfl), g3, enc_den (Reads.mono (w := w) (w' := w) hokc (fun _ _ _ => rfl) hrd)⟩) (DenL.free hokc (fun _ _ _ => rfl) frzBL_names hdr1)
            unfold Oper.wp
            rw [hrun he, Oper.upon_enter]
            refine hcall.mono ?_
            rintro e w' ⟨r', rfl, u, hg, hB, hb⟩
            have hg := hg hnv
            have hle : w.heap.size ≤ w'.heap.size := hb.size
            have hbel : Bel base w0 w' := h2.trans (hb.lift fun k hk hnb => ⟨Nat.lt_of_lt_of_le hk h3, fun hx => by
              rcases (hown k hx).1 with h6 | h6
              · omega
              · exact hnb h6⟩)
            split at hr
            · rename_i hno
              simp only [Option.some.injEq] at hr
              subst hr
              refine hK _ _ (Rep.put (σ := { σ with heap := fun n => findU ((nm, Blk.box (enc d'.t d'.x)) :: killU (AV.names.namesL rest)) n (σ.heap n) }) (box_back hrep1 hnm1 h3 hB hb) h1 hbel (Nat.le_trans h3 hle) hd fun _ => plainK hno ⟨u, hg⟩ (.inl hnv))
            · rename_i t xs hone
              obtain ⟨hdr', hun, hownr⟩ := hg
              split at hr
              · rename_i d hdst
                split at hr
                · rename_i hdn
                  simp only [Option.some.injEq] at hr
                  subst hr
                  have hB2 := hownr t xs hone
                  replace hdn := hfr d hdst hdn
                  have hdnm : d ≠ nm := fun he => by subst he; rw [hnm'] at hdn; simp at hdn
                  have hdk : d ∉ AV.names.namesL rest := fun hm => by
                    obtain ⟨t, xs, e⟩ := hns d hm
                    rw [hdn] at e; simp at e
                  have hdn2 : findU (killU (AV.names.namesL rest)) d (σ.heap d) = none := by rw [findU_kill, if_neg hdk]; exact hdn
                  have hfin := box_back_own (d := d) hrep1 hnm1 h3 hB hb (dst_ne hrep (hdst ▸ hd)) hdn2 (noView_owns (o := ⟨t, xs⟩) hnv (by rw [hone]; simp)) hB2
                  refine hK _ _ (Rep.fin (σ' := { σ with heap := fun n => findU ((d, Blk.row t xs) :: (nm, Blk.box (enc d'.t d'.x)) :: killU (AV.names.namesL rest)) n (σ.heap n) }) (ref := fun n => if n = d then u else ref n) hfin h1 hbel (Nat.le_trans h3 hle) hd fun _ => ?_)
                  exact Den.rename (c := { resCx (Base.of w.heap.size) w' u (ownsOf v ≠ []) with ok := fun _ => False }) (c' := (cxOf base { σ with heap := fun n => findU ((d, Blk.row t xs) :: (nm, Blk.box (enc d'.t d'.x)) :: killU (AV.names.namesL rest)) n (σ.heap n) } w' (fun n => if n = d then u else ref n))) (m := 0) (d := d) (fun _ => ⟨.row t xs, by simp [findU]⟩) (by simp [cxOf, resCx]) (fun _ h => h.elim) (fun _ _ _ => rfl) hvn (Den.noView hnv hdr')
                · simp at hr
              · simp at hr
            · simp at hr
          · simp at hr
        · simp at hr
      · simp at hr
    · simp at hr
  · -- one that makes a box
    rename_i ct hct he
    split at hr
    · rename_i p dd d hv hn hdst
      split at hr
      · rename_i hdn
        simp only [Option.some.injEq] at hr
        subst hr
        have hda := DenL.argN1 (h := h) hn hden
        have hcall := hC.1 f _ hct _ _ _ hv hp w (cxOf base σ w ref).ok _ (hC.2.of h3 _) hda
        unfold Oper.wp
        rw [hrun he, Oper.upon_enter]
        refine hcall.mono ?_
        rintro e w' ⟨r', rfl, hB, hb⟩
        have hle : w.heap.size ≤ w'.heap.size := hb.size
        have hblk : ∀ b, b < w.heap.size → w'.heap[b]? = w.heap[b]? := fun b hlt => hb.block b hlt id
        replace hdn := hfr d hdst hdn
        have own2 : ∀ {b : Nat}, (Base.of w.heap.size (cxOf base σ w ref).ok).own b → w.heap.size ≤ b := fun h => h.elim id False.elim
        have hu : ∀ b, Owns r' b → w.heap.size ≤ b := fun b hb' => own2 (hB.lt rfl hb').1
        have hok : ∀ b', (resCx (Base.of w.heap.size (cxOf base σ w ref).ok) w' r' False).ok b' → (cxOf base { σ with heap := fun n => findU [(d, Blk.box (enc dd.t dd.x))] n (σ.heap n) } w' (fun n => if n = d then r' else ref n)).ok b' := by
          intro b hb
          refine ⟨hb.2.1, ?_, fun n B hn hl => ?_⟩
          · rcases hb.1 with h6 | h6
            · exact .inl (.inl (Nat.le_trans h3 (own2 h6)))
            · exact h6.2.1
          · simp only [findU_one] at hn
            split at hn
            · rename_i he; subst he; simp only [if_true]; exact hb.2.2
            · rename_i he
              simp only [if_neg he]
              rcases hb.1 with h6 | h6
              · exact hfresh b (own2 h6) n B hn hl
              · exact h6.2.2 n B hn hl
        obtain ⟨b, vs, ty, g1, g2, g3, g4⟩ := id hB
        have hadd := hrep.add (σ' := { σ with heap := fun n => findU [(d, Blk.box (enc dd.t dd.x))] n (σ.heap n) }) (nm := d) (B := .box (enc dd.t dd.x)) (u := r') (w' := w') (dst_ne hrep (hdst ▸ hd)) hdn (fun n => findU_one n) rfl rfl hle hblk hu
          ⟨b, vs, ty, g1, .inl (Nat.le_trans h3 (own2 g2)), g3, DenL.free hok (fun _ _ _ => rfl) (enc_nameless _ _) g4⟩
        refine hK _ _ (Rep.fin (σ' := { σ with heap := fun n => findU [(d, Blk.box (enc dd.t dd.x))] n (σ.heap n) }) (ref := fun n => if n = d then r' else ref n) hadd h1 (h2.trans (hb.mono h3)) (Nat.le_trans h3 hle) hd fun _ => ?_)
        exact ⟨⟨Blk.box (enc dd.t dd.x), show findU [(d, Blk.box (enc dd.t dd.x))] d (σ.heap d) = some (Blk.box (enc dd.t dd.x)) by rw [findU_one, if_pos rfl]⟩, b, by simp only [cxOf, if_true]; exact g1, g1⟩
      · simp at hr
    · simp at hr
  · simp at hr
theorem foldl_bytes (f : Int → UInt8) : ∀ (ns : List Int) (s : ByteArray), ns.foldl (fun r n => r.push (f n)) s = ⟨s.data ++ (ns.map f).toArray⟩
  | [], s => by simp
  | n :: ns, s => by
    rw [List.foldl_cons, foldl_bytes f ns]
    simp [ByteArray.push]
theorem convB_sound {h : Nat → Option Blk} {s d : TypeId} {x v : AV} {p : Nd} {u : Value} {c : Cx} (hw : c.w = w) (hh : HeapP c base h) (hr : resConvB P h s d x = some (p, v)) (hx : Den c x u) :
    ∃ r, (Go.convert s d u).run P w = .ok r w ∧ Den c v r := by
  unfold resConvB at hr
  split at hr
  · rename_i e hs hd
    split at hr
    · rename_i xs he hsrc
      simp only [Option.some.injEq, Prod.mk.injEq] at hr
      obtain ⟨_, rfl⟩ := hr
      obtain ⟨ad, cap, us, rfl, ⟨hl, hrow⟩, hcells⟩ := src_cells hh hsrc hx
      have hus : us = xs.map (Value.int .u8) := by
        refine List.ext_getElem? fun i => ?_
        rcases Nat.lt_or_ge i xs.length with hi | hi
        · obtain ⟨us', h1, h2⟩ := hrow i hi
          simp only [Reads] at h1
          subst h1
          have := h2 0 (by simp)
          simp only [Ty.size, Nat.mul_one, Nat.add_zero] at this
          rw [this]
          simp [hi]
        · simp only [Ty.size, Nat.mul_one] at hl
          rw [List.getElem?_eq_none (by omega), List.getElem?_eq_none (by simpa using hi)]
      rw [run_convert_bytes_string w s d e ad xs.length cap hs he hd]
      have hlen : us.length = xs.length := by rw [hus]; simp
      match ad, hcells with
      | none, hcells =>
        have hnil : us = [] := by
          rcases hcells with h | ⟨b, o, h, _⟩
          · exact h
          · simp at h
        have hx0 : xs = [] := List.eq_nil_of_length_eq_zero (by rw [← hlen, hnil]; rfl)
        subst hx0
        exact ⟨.string .empty, by simp [Conv.bytesToString], rfl⟩
      | some a, hcells =>
        have hload : (loadCells a xs.length).run P w = .ok (xs.map (Value.int .u8)).toArray w := by
          have := run_loadCells_list (P := P) (w := w) a us (fun j v hj => by
            rcases hcells with h | ⟨b, o, h, h2⟩
            · rw [h] at hj; simp at hj
            · simp only [Option.some.injEq] at h
              subst h
              rw [add_addr, ← hw]; exact h2 j v hj)
          rw [hlen] at this
          rw [this, hus]
        refine ⟨_, run_bytesToString w a xs.length cap xs hload, ?_⟩
        rw [foldl_bytes (fun z => UInt8.ofNat z.toNat)]
        show Value.string _ = Value.string _
        congr 1
        simp [toU8, ByteArray.empty, ByteArray.emptyWithCapacity]
        rfl
    · simp at hr
  · simp at hr
theorem clear_sound {h : Nat → Option Blk} {ts : Array TypeId} {ty : TypeId} {x : AV} {r : Res} {u : Value} (hrep : RepAt base σ a w ref) (hsub : ∀ n B, h n = some B → B.live = true → σ.heap n = some B) (hpl : ∀ n t xs, h n = some (.row t xs) → t.isDeep = false)
    (hr : resClear P h ts.toList x = some r) (hp : r.need.ok) (hx : Den (cxOf base σ w ref) x u) :
    ∃ w' b o, (Builtin.clear_ ts ty #[u]).run P w = .ok (.tuple #[]) w' ∧ Wrote w w' b o ∧ base.own b ∧ RepAt base { σ with heap := fun n => findU r.upd n (σ.heap n) } a w' ref ∧ r.val = .tup [] ∧ r.upd ≠ [] := by
  unfold resClear at hr
  split at hr
  · rename_i t sz nm off n hts
    have htsz : ts = #[t] := by apply Array.ext'; exact hts
    subst htsz
    split at hr
    · rename_i e tt xs hu hnm
      split at hr
      · rename_i cs hz
        split at hr
        · rename_i y hy
          cases hb : (Nat.beq sz tt.size && (Nat.beq cs.length tt.size && cs.all AV.one)) <;> rw [hb] at hr <;> simp only [cond_true, cond_false, reduceCtorEq, Option.some.injEq] at hr
          subst hr
          simp only [Bool.and_eq_true] at hb
          obtain ⟨hb0, hb1, hb2⟩ := hb
          have hsz : sz = tt.size := Nat.eq_of_beq_eq_true hb0
          subst hsz
          have hcl : cs.length = tt.size := Nat.eq_of_beq_eq_true hb1
          obtain ⟨hp, hxp⟩ : off + n ≤ xs.length ∧ 0 < xs.length := hp
          have hnm' := hsub _ _ hnm rfl
          obtain ⟨_, b, o, N, cap, ad, cap', hv, rfl, _, _, hcase⟩ := hx
          have hv0 : ref nm = .slice (some ⟨b, o, none⟩) N cap := ((hrep.blk _ _ hnm').hv (hpl _ _ _ hnm)).symm.trans hv
          obtain ⟨zv, hzrun, hzden⟩ := zeroOf_run (w := w) (c := cxOf base σ w ref) hz
          have hzl : zv.cells.size = tt.size := by have := hzden.length; simp at this; omega
          rcases (hrep.blk _ _ hnm').old (hpl _ _ _ hnm) with ⟨⟨ad', hv'⟩, rfl⟩ | ⟨b', capp, vs, rest, tyy, pre, hv', hge, hheap, hrow, hlen, hle, hpos⟩
          · simp at hxp
          rw [hv0] at hv'
          simp only [Value.slice.injEq, Option.some.injEq, Addr.mk.injEq, and_true] at hv'
          obtain ⟨⟨rfl, rfl⟩, rfl, rfl⟩ := hv'
          have hvl := hrow.1
          have hm1 : off * tt.size + n * tt.size ≤ vs.length := by rw [hvl, ← Nat.add_mul]; exact Nat.mul_le_mul_right _ hp
          have hzs : (Builtin.zeroCells zv.cells n).toList = (madeCells zv.cells (n * tt.size)).toList := by
            simp [Builtin.zeroCells, madeCells, hzl]
          have hlz : (madeCells zv.cells (n * tt.size)).toList.length = n * tt.size := by simp [madeCells]
          have hone : ∀ q ∈ (madeCells zv.cells (n * tt.size)).toList, q.oneCell' = true := fun q hq => by
            simp only [madeCells, Array.toList_map, Array.toList_range, List.mem_map, List.mem_range] at hq
            obtain ⟨i, hi, rfl⟩ := hq
            have hpos' : 0 < tt.size := tt.size_pos
            have hlt : i % zv.cells.size < zv.cells.size := Nat.mod_lt _ (by omega)
            rw [getElem!_pos zv.cells _ hlt]
            exact hzden.ones hb2 _ (by simp)
          obtain ⟨w', hrun, hw⟩ := storeCells_wrote (P := P) (off := List.length pre + off * tt.size) (madeCells zv.cells (n * tt.size)).toList 0 (pre ++ (vs ++ rest)) w hheap hone (by rw [hlz]; simp; omega)
          have harr : (pre ++ (vs ++ rest)).take (List.length pre + off * tt.size + 0) ++ (madeCells zv.cells (n * tt.size)).toList ++ (pre ++ (vs ++ rest)).drop (List.length pre + off * tt.size + 0 + (madeCells zv.cells (n * tt.size)).toList.length) = pre ++ ((vs.take (off * tt.size) ++ (madeCells zv.cells (n * tt.size)).toList ++ vs.drop ((off + n) * tt.size)) ++ rest) := by
            rw [pre_splice pre vs rest _ _ (by rw [hlz]; omega), hlz, Nat.add_mul]
          rw [harr] at hw
          have hfin : ∀ w', Wrote w w' b (.cells (List.toArray (pre ++ ((vs.take (off * tt.size) ++ (madeCells zv.cells (n * tt.size)).toList ++ vs.drop ((off + n) * tt.size)) ++ rest))) tyy (0, 0)) → RepAt base { σ with heap := fun m => findU [(nm, .row tt (clearL xs off n y))] m (σ.heap m) } a w' ref := fun w' hw => by
            refine (hrep.wrote (σ' := { σ with heap := fun m => findU [(nm, .row tt (clearL xs off n y))] m (σ.heap m) }) (B := .row tt xs) (B' := .row tt (clearL xs off n y)) (nm := nm) hnm' rfl (by rw [hv0]; exact owns_some hpos) rfl (fun m => ?_) rfl rfl hw (fun hle' => ?_)).1
            · simp only [findU]
              by_cases he : m = nm
              · subst he; simp
              · simp [nbeq_ne he, he]
            · have hlc : (clearL xs off n y).length = xs.length := by simp [clearL]; omega
              refine (row_plain (hpl _ _ _ hnm)).2 (.inr ⟨b, cap, _, rest, tyy, pre, by rw [hlc]; exact hv0, hge, hw.here, ?_, ?_, by rw [hlc]; exact hle, hpos⟩)
              · have hr' := hrow.mono hle'.ok hle'.cell
                have hzr : Reads (cxOf base { σ with heap := fun m => findU [(nm, .row tt (clearL xs off n y))] m (σ.heap m) } w' ref).w (cxOf base { σ with heap := fun m => findU [(nm, .row tt (clearL xs off n y))] m (σ.heap m) } w' ref).ok tt y zv.cells.toList := den_reads (decT_den hy (hzden.mono hle'))
                exact ((hr'.takeN off (by omega)).append (RowAt.zeros hzr n)).append (hr'.dropN (off + n) hp)
              · have := (Nat.add_mul off n tt.size)
                simp only [List.length_append, List.length_take, List.length_drop, hlz]
                omega
          rcases hcase with h0 | rfl
          · subst h0
            refine ⟨w, b, .cells (List.toArray (pre ++ (vs ++ rest))) tyy (0, 0), ?_, ⟨rfl, rfl, rfl, rfl, hheap, fun _ _ => rfl⟩, hge, ?_, rfl, by simp⟩
            · cases ad <;> simp [Builtin.clear_, Go.underlying, hu]
            · have e : (vs.take (off * tt.size) ++ (madeCells zv.cells (0 * tt.size)).toList ++ vs.drop ((off + 0) * tt.size)) = vs := by
                simp [madeCells]
              have := hfin w
              rw [e] at this
              exact this ⟨rfl, rfl, rfl, rfl, hheap, fun _ _ => rfl⟩
          · rcases Nat.eq_zero_or_pos n with h0 | h0
            · subst h0
              refine ⟨w, b, .cells (List.toArray (pre ++ (vs ++ rest))) tyy (0, 0), ?_, ⟨rfl, rfl, rfl, rfl, hheap, fun _ _ => rfl⟩, hge, ?_, rfl, by simp⟩
              · simp [Builtin.clear_, Go.underlying, hu]
              · have e : (vs.take (off * tt.size) ++ (madeCells zv.cells (0 * tt.size)).toList ++ vs.drop ((off + 0) * tt.size)) = vs := by
                  simp [madeCells]
                have := hfin w
                rw [e] at this
                exact this ⟨rfl, rfl, rfl, rfl, hheap, fun _ _ => rfl⟩
            · obtain ⟨m, rfl⟩ : ∃ m, n = m + 1 := ⟨n - 1, by omega⟩
              refine ⟨w', b, _, ?_, hw, hge, hfin w' hw, rfl, by simp⟩
              simp only [Builtin.clear_]
              simp [Go.underlying, hu, hzrun, hzs, hrun]
        · simp at hr
      · simp at hr
    · simp at hr
  · simp at hr
theorem findU_app : ∀ (us ks : List (Nat × Blk)) (n : Nat) (z : Option Blk), findU (us ++ ks) n z = findU us n (findU ks n z)
  | [], _, _, _ => rfl
  | (m, b) :: us, ks, n, z => by simp only [List.cons_append, findU, findU_app us ks n z]
theorem apply_kill {σ : St} {dst : Option Nat} {v : AV} {upd : List (Nat × Blk)} {n : Nat} {ns : List Nat} : ({ σ with heap := fun m => findU (killU (n :: ns)) m (σ.heap m) } : St).apply dst v upd = σ.apply dst v (upd ++ killU (n :: ns)) := by
  cases upd with
  | nil => rfl
  | cons u us =>
    simp only [St.apply, List.cons_append]
    congr 1
    funext m
    rw [← List.cons_append, findU_app]
theorem call2_sound {h : Nat → Option Blk} {f : FuncId} {vals : List AV} {us : List Value} {r : Res} {ref : Nat → Value} (hC : CG P C base w) (hrep : RepAt base σ a w ref) (h1 : a.defers = []) (h2 : Bel base w0 w) (h3 : base.n ≤ w.heap.size)
    (hsub : ∀ n B, h n = some B → B.live = true → σ.heap n = some B) (hfr : ∀ d, o.dst = some d → h d = none → σ.heap d = none) (hh : HeapAt (cxOf base σ w ref) base h) (hd : dstOk σ o.dst = true) (hr : resCall2 P C h o.dst f vals = some r) (hp : r.need.ok) (hden : DenL (cxOf base σ w ref) vals us)
    (hrun : enterable P f = true → (execOp a.eval o).run P w = .ok (.enter f us.toArray) w) (hK : ∀ a' w', Rep base w0 (σ.apply o.dst r.val r.upd) a' w' → K a' w') : o.wp P a w K Q := by
  unfold resCall2 at hr
  split at hr
  · rename_i r' hr'
    simp only [Option.some.injEq] at hr
    subst hr
    exact call_sound hC hrep h1 h2 h3 hsub hfr hh hd hr' hp hden hrun hK
  unfold resCallF at hr
  split at hr
  · simp at hr
  · rename_i n ns hN
    cases hb : rowsOnly h (n :: ns) <;> rw [hb] at hr <;> simp only [cond_true, cond_false, reduceCtorEq] at hr
    split at hr
    · rename_i r0 hr0
      simp only [Option.some.injEq] at hr
      subst hr
      have hns : ∀ m ∈ n :: ns, ∃ t xs, σ.heap m = some (.row t xs) := fun m hm => by
        obtain ⟨t, xs, e⟩ := rowsOnly_spec hb m hm
        exact ⟨t, xs, hsub _ _ e rfl⟩
      have hle := kill_le (base := base) (w := w) (ref := ref) hns
      refine call_sound (σ := { σ with heap := fun m => findU (killU (n :: ns)) m (σ.heap m) }) (us := us) hC (hrep.kill hns) h1 h2 h3 (fun m B hm hl => ?_) (fun d he hm => ?_) ⟨fun m B hm => ?_, fun m B hm => ?_⟩ hd hr0 hp (DenL.kill hrep hns hsub (fun m hm => by rw [hN] at hm; exact hm) hden) hrun (fun a' w' hR => ?_)
      · show findU (killU (n :: ns)) m (σ.heap m) = some B
        rw [findU_kill] at hm ⊢
        split at hm
        · rename_i hmn; rw [if_pos hmn]; exact hm
        · rename_i hmn; rw [if_neg hmn]; exact hsub _ _ hm hl
      · show findU (killU (n :: ns)) d (σ.heap d) = none
        rw [findU_kill] at hm ⊢
        split at hm
        · simp at hm
        · rename_i hmn; rw [if_neg hmn]; exact hfr d he hm
      · rw [findU_kill] at hm
        split at hm
        · rename_i hmn
          exact ⟨.dead, by show findU (killU (n :: ns)) m (σ.heap m) = _; rw [findU_kill, if_pos hmn]⟩
        · exact hle.dom _ (hh.dom _ _ hm)
      · rw [findU_kill] at hm
        split at hm
        · simp only [Option.some.injEq] at hm; subst hm; trivial
        · exact BlkDen.mono hle (fun _ _ => rfl) (hh.blk _ _ hm)
      · rw [apply_kill] at hR
        exact hK _ _ hR
    · simp at hr
theorem andNd_ok {q : Prop} {p : Nd} (h : (andNd q p).ok) : q ∧ p.ok := by
  cases p with
  | tt => exact ⟨h, trivial⟩
  | p r => exact h
/-- The row in an element is lent to one that writes into it. -/
theorem callI_sound {h : Nat → Option Blk} {f : FuncId} {vals : List AV} {us : List Value} {r : Res} {ref : Nat → Value} (hC : CG P C base w) (hrep : RepAt base σ a w ref) (h1 : a.defers = []) (h2 : Bel base w0 w) (h3 : base.n ≤ w.heap.size)
    (hsub : ∀ n B, h n = some B → B.live = true → σ.heap n = some B) (hd : dstOk σ o.dst = true) (hr : resCallI P C h f vals = some r) (hp : r.need.ok) (hden : DenL (cxOf base σ w ref) vals us)
    (hrun : enterable P f = true → (execOp a.eval o).run P w = .ok (.enter f us.toArray) w) (hK : ∀ a' w', Rep base w0 (σ.apply o.dst r.val r.upd) a' w' → K a' w') : o.wp P a w K Q := by
  unfold resCallI at hr
  split at hr
  · rename_i i off rest ct hct he
    split at hr
    · rename_i ty xs hnm
      split at hr
      · rename_i e l hel
        split at hr
        · rename_i p v e' l' hv
          split at hr
          · rename_i hee
            subst hee
            split at hr
            · rename_i y hy
              cases hb : (plain v && ((AV.names.namesL rest).isEmpty && Nat.beq (nIn ty) 1)) <;> rw [hb] at hr <;> simp only [cond_true, cond_false, reduceCtorEq, Option.some.injEq] at hr
              subst hr
              simp only [Bool.and_eq_true, List.isEmpty_iff] at hb
              obtain ⟨hpl, hnn, hn1⟩ := hb
              have hn1 : nIn ty = 1 := Nat.eq_of_beq_eq_true hn1
              obtain ⟨hi, hp⟩ := andNd_ok hp
              have hpl' := hpl
              simp only [plain, Bool.and_eq_true, List.isEmpty_iff] at hpl
              obtain ⟨u, us', rfl, hdu, hdr⟩ := hden
              obtain ⟨_, s, ins, aa, nn, cc, hrv, hin, hus⟩ := hdu
              have hnm' := hsub _ _ hnm rfl
              obtain ⟨s', ins', u', b, cap, vs, rest0, tyy, pre, hrv', hin', hs, hheap, hcell, hflat, hold, hput⟩ := (show DeepRow (cxOf base σ w ref) base (ref 700000) ty xs from hrep.blk _ _ hnm').inner hi hn1 hel
              have hrv : ref 700000 = .tuple (List.toArray (s :: ins)) := hrv
              rw [hrv] at hrv'
              simp only [Value.tuple.injEq, List.toArray_inj, List.cons.injEq] at hrv'
              obtain ⟨rfl, rfl⟩ := hrv'
              rw [hin] at hin'
              simp only [Option.some.injEq] at hin'
              subst hin'
              have hum : u ∈ s :: ins := List.mem_cons_of_mem _ (List.mem_of_getElem? hin)
              have hub : ∀ b, Owns u b → Owns (ref 700000) b := fun b hb => by rw [hrv]; exact ⟨u, hum, (owns_blk ⟨_, _, _, hus⟩).1 hb⟩
              have hown : ∀ b, Owns (ref 700000) b → base.own b ∧ b < w.heap.size := fun b hbb => (hrep.blk _ _ hnm').lt rfl hbb
              have hL : Lent w u (.own e' l :: rest.map (asOwn h)) (u :: us') := by
                have ho := asOwnL_owns (h := h) (xs := rest)
                rw [asOwnL_map, hnn] at ho
                have hzero : ownsOf.ownsL (rest.map (asOwn h)) = [] := List.eq_nil_of_length_eq_zero (by simpa using ho.1)
                have hos : ownsOf.ownsL (AV.own e' l :: rest.map (asOwn h)) = [⟨e', l⟩] := by simp only [ownsOf.ownsL, ownsOf, hzero]; rfl
                refine ⟨⟨u, us', rfl, ⟨rfl, by rw [hus]; rfl, _, _, _, hus⟩, ?_⟩, fun t' xs' he => ?_, fun he => by rw [hos] at he; simp at he, by rw [hos]; simp, ?_⟩
                · rw [← asOwnL_map]
                  exact DenL.lent (ref := ref) (fun b hb hx => hb.2.2 700000 _ hnm' rfl (hub b hx)) (fun m hm => by rw [hnn] at hm; simp at hm) hdr
                · rw [hos] at he
                  simp only [List.cons.injEq, OwnD.mk.injEq, and_true] at he
                  obtain ⟨rfl, he⟩ := he
                  have he := eq_of_heq he
                  subst he
                  exact (row_plain (flat_plain hflat)).2 (RowOld.move (c := cxOf base σ w ref) (B := base) (fun b hb _ => .inr hb) (fun _ _ => rfl) (fun _ h => h.flat hflat) hold)
                · simp only [AV.names.namesL, AV.names, List.nil_append]
                  rw [← asOwnL_map]; exact asOwnL_names
              have hcall := hC.1 f _ hct _ _ _ _ hv hp w _ _ (hC.2.lent h3 (u := u) fun b hb => hC.2.own_le (hown b (hub b hb)).1) hL
              unfold Oper.wp
              rw [hrun he, Oper.upon_enter]
              refine hcall.mono ?_
              rintro ex w' ⟨r', rfl, hg, hB, hb⟩
              have hB : RowDen (lentCx w' u) (lentB w u) u e' l' := hB (by simp [ownsOf.ownsL, ownsOf])
              have hB := (row_plain (flat_plain hflat)).1 hB
              have hle : w.heap.size ≤ w'.heap.size := hb.size
              have hblk : ∀ b, b < w.heap.size → ¬ Owns u b → w'.heap[b]? = w.heap[b]? := fun b hlt hne => hb.block b hlt hne
              have hset : setC ty xs i off [.view e' (castT rfl l')] = @List.set ty.den xs i y := by
                have hy' : decT ty (splice (enc ty (xs.getD i ty.zero)) off [.view e' (castT rfl l')]) = some y := hy
                simp only [setC, putC, hy']
              rw [hset] at hK
              have hσ : ∀ n, ({ σ with heap := fun n => findU [(700000, Blk.row (.deep ty) (@List.set ty.den xs i y))] n (σ.heap n) } : St).heap n = if n = 700000 then some (.row (.deep ty) (@List.set ty.den xs i y)) else σ.heap n := fun n => findU_one n
              obtain ⟨hl1, hl2⟩ := hrep.lentBack (σ' := { σ with heap := fun n => findU [(700000, Blk.row (.deep ty) (@List.set ty.den xs i y))] n (σ.heap n) }) (B' := .row (.deep ty) (@List.set ty.den xs i y)) hnm' rfl hσ rfl rfl hle (fun b hlt hne => hblk b hlt fun hx => hne (hub b hx)) (fun _ => by
                refine hput _ base l' y (fun u' hu' b hb1 hb2 => ⟨id, hblk b ?_ fun hx => hb2 ((owns_blk ⟨_, _, _, hus⟩).1 hx)⟩) (RowOld.move (c := lentCx w' u) (B := lentB w u) (fun b hb _ => (hown b (hub b hb)).1) (fun _ _ => rfl) (fun _ h => h.flat hflat) hB) hy
                exact (hown b (by rw [hrv]; exact ⟨u', hu', hb1⟩)).2)
              refine hK _ _ (Rep.fin hl1 h1 (h2.trans (hb.lift fun k hk hnb => ⟨Nat.lt_of_lt_of_le hk h3, fun hx => ?_⟩)) (Nat.le_trans h3 hle) hd fun _ => ?_)
              · rcases (hown k (hub k hx)).1 with h6 | h6
                · omega
                · exact hnb h6
              · obtain ⟨u2, hdr2, _, _⟩ := hg hpl'
                have hdr2 := Den.noView (ok := fun _ => False) hpl.2.2 hdr2
                rw [rowed_none hpl.1] at hdr2
                have hle2 : Cx.le { resCx (Base.of w.heap.size) w' u2 (ownsOf v ≠ []) with ok := fun _ => False } (cxOf base { σ with heap := fun n => findU [(700000, Blk.row (.deep ty) (@List.set ty.den xs i y))] n (σ.heap n) } w' ref) := ⟨fun _ h => absurd hpl.1 h.2, fun _ h => absurd hpl.1 h.2, fun b h => h.elim, fun _ _ h => h.elim⟩
                exact hdr2.mono hle2
            · simp at hr
          · simp at hr
        · simp at hr
      · simp at hr
    · simp at hr
  · simp at hr
theorem opDeep_sound {h : Nat → Option Blk} {r : Res} {ref : Nat → Value} (hC : CG P C base w) (hr : opDeep P C o (opVals σ.env o) h = some r) (hp : r.need.ok) (hd : dstOk σ o.dst = true) (hrep : RepAt base σ a w ref) (h1 : a.defers = []) (h2 : Bel base w0 w) (h3 : base.n ≤ w.heap.size)
    (hsub : ∀ n B, h n = some B → B.live = true → σ.heap n = some B) (hfr : ∀ d, o.dst = some d → h d = none → σ.heap d = none) (hh : HeapAt (cxOf base σ w ref) base h)
    (hK : ∀ a' w', Rep base w0 (σ.apply o.dst r.val r.upd) a' w' → K a' w') : o.wp P a w K Q := by
  have hop := hrep.den
  obtain ⟨dst, op, type, pos, after, guard⟩ := o
  cases op <;> first | (simp [opDeep] at hr; done) | skip
  case store t x v =>
    replace hr : resStoreD P h t (opVal σ.env x) (opVal σ.env v) = some r := hr
    obtain ⟨w', b, ob, ref', hrun, hw, hge, hrep', hv, hne⟩ := storeD_sound hrep hsub hr hp (hop x) (hop v)
    refine wp_skip' (w' := w') (by simp [execOp, hrun]) (hK _ _ ?_)
    have hfin := Rep.fin (w0 := w0) (dst := dst) (v := .undef) (u := Go.undef) hrep' h1 (hw.below h2 hge) (by rw [hw.size]; exact h3) hd (fun _ => rfl)
    rw [hv]
    cases hu : r.upd with
    | nil => exact absurd hu hne
    | cons y ys => rw [hu] at hfin; exact hfin
  case indexAddr t x i =>
    replace hr : PR.toRes (resIndexD P h t (opVal σ.env x) (opVal σ.env i)) = some r := hr
    unfold PR.toRes at hr
    split at hr
    · rename_i p v hv
      simp only [Option.some.injEq] at hr
      subst hr
      obtain ⟨y, hy, hdy⟩ := indexD_sound (w := w) (c := cxOf base σ w ref) (fun _ h => h.1) hh.blk hv hp (hop x) (hop i)
      exact wp_value (by simp [execOp, hy]) (hK _ _ (Rep.put hrep h1 h2 h3 hd fun _ => hdy))
    · simp at hr
  case load t x =>
    replace hr : resLoadX P h dst t (opVal σ.env x) = some r := hr
    unfold resLoadX at hr
    split at hr
    · rename_i p v hv
      simp only [Option.some.injEq] at hr
      subst hr
      obtain ⟨y, hy, hdy⟩ := loadD_sound (w := w) (c := cxOf base σ w ref) rfl hh.blk hv hp (hop x)
      exact wp_value (by simp [execOp, hy]) (hK _ _ (Rep.put hrep h1 h2 h3 hd fun _ => hdy))
    · split at hr
      · rename_i p v hv
        simp only [Option.some.injEq] at hr
        subst hr
        obtain ⟨y, hy, hdy⟩ := loadF_sound (w := w) (c := cxOf base σ w ref) rfl hh.blk hv hp (hop x)
        exact wp_value (by simp [execOp, hy]) (hK _ _ (Rep.put hrep h1 h2 h3 hd fun _ => hdy))
      · obtain ⟨v', ref', hrun, g3, g4, g5⟩ := loadO_sound hrep hd hsub hfr hr hp (hop x)
        refine wp_value (w' := w) (v := v') (by simp [execOp, hrun]) (hK _ _ ?_)
        have hfin := Rep.fin (w0 := w0) (dst := dst) g3 h1 h2 h3 hd (fun _ => g4)
        cases hu : r.upd with
        | nil => exact absurd hu g5
        | cons u us => rw [hu] at hfin; exact hfin
  case makeSlice t l x =>
    replace hr : resMakeD P h dst t (opVal σ.env l) (opVal σ.env x) = some r := hr
    obtain ⟨v', w', ref', hrun, g1, g2, g3, g4, g5⟩ := makeD_sound hrep hd h2 h3 hsub hfr hr hp (hop l) (hop x)
    refine wp_value (w' := w') (v := v') (by simp [execOp, hrun]) (hK _ _ ?_)
    have hfin := Rep.fin (w0 := w0) (dst := dst) g3 h1 g1 g2 hd (fun _ => g4)
    cases hu : r.upd with
    | nil => exact absurd hu g5
    | cons u us => rw [hu] at hfin; exact hfin
  case buildSlice t len parts =>
    have e : opVals σ.env ⟨dst, .buildSlice t len parts, type, pos, after, guard⟩ = (parts.toList.map (·.2)).map (opVal σ.env) := by
      simp [opVals, Op.operands]
    replace hr : resBuildSliceD P h dst t len (parts.toList.map (·.1)) (opVals σ.env ⟨dst, .buildSlice t len parts, type, pos, after, guard⟩) = some r := hr
    rw [e] at hr
    obtain ⟨v', w', ref', hrun, g1, g2, g3, g4, g5⟩ := buildSliceD_sound hrep hd h2 h3 hsub hfr (opVals_den hop _) hr
    refine wp_value (w' := w') (v := v') (by simp [execOp, hrun]) (hK _ _ ?_)
    have hfin := Rep.fin (w0 := w0) (dst := dst) g3 h1 g1 g2 hd (fun _ => g4)
    cases hu : r.upd with
    | nil => exact absurd hu g5
    | cons u us => rw [hu] at hfin; exact hfin
  case call cl =>
    obtain ⟨callee, args, ts⟩ := cl
    cases callee with
    | invoke r m => simp [opDeep] at hr
    | value f =>
      cases f <;> first | (simp [opDeep] at hr; done) | skip
      case func f =>
        have e : opVals σ.env ⟨dst, .call ⟨.value (.func f), args, ts⟩, type, pos, after, guard⟩ = .fn f :: args.toList.map (opVal σ.env) := by
          simp [opVals, Op.operands, Call.operands, opVal]
        replace hr : resCallI P C h f (opVals σ.env ⟨dst, .call ⟨.value (.func f), args, ts⟩, type, pos, after, guard⟩).tail = some r := hr
        rw [e, List.tail_cons] at hr
        refine callI_sound (us := args.toList.map a.eval) hC hrep h1 h2 h3 hsub hd hr hp (opVals_den hop _) (fun he => ?_) hK
        have e2 : (args.toList.map a.eval).toArray = args.map a.eval := by apply Array.ext'; simp
        rw [e2]
        exact call_run rfl he
    | builtin b =>
      by_cases hb : b = .append
      · subst hb
        rcases args with ⟨_ | ⟨x, _ | ⟨y, _ | ⟨z, l⟩⟩⟩⟩ <;> first | (simp [opDeep, opVals, Op.operands, Call.operands] at hr; done) | skip
        replace hr : resAppendD P h dst ts.toList (opVal σ.env x) (opVal σ.env y) = some r := hr
        obtain ⟨v', w', ref', hrun, g1, g2, g3, g4, g5⟩ := appendD_sound (ty := type) hrep hd h2 h3 hsub hfr hr hp (hop x) (hop y)
        refine wp_value (w' := w') (v := v') (by simp [execOp, resolve, invoke, builtin, hrun]) (hK _ _ ?_)
        have hfin := Rep.fin (w0 := w0) (dst := dst) g3 h1 g1 g2 hd (fun _ => g4)
        cases hu : r.upd with
        | nil => exact absurd hu g5
        | cons u us => rw [hu] at hfin; exact hfin
      · cases b <;> first | exact (hb rfl).elim | (simp [opDeep] at hr; done) | skip
        case len =>
          rcases args with ⟨_ | ⟨x, _ | ⟨y, l⟩⟩⟩ <;> first | (simp [opDeep, opVals, Op.operands, Call.operands] at hr; done) | skip
          replace hr : (match ts[0]? with
            | some t => PR.toRes (resLenD P h t (opVal σ.env x))
            | none => none) = some r := hr
          split at hr
          · rename_i t ht
            unfold PR.toRes at hr
            split at hr
            · rename_i p v hv
              simp only [Option.some.injEq] at hr
              subst hr
              obtain ⟨y, hy, hdy⟩ := lenD_sound (w := w) (c := cxOf base σ w ref) (ty := type) (fun _ h => h.1) hh.blk ht hv (hop x)
              exact wp_value (by simp [execOp, resolve, invoke, builtin, hy]) (hK _ _ (Rep.put hrep h1 h2 h3 hd fun _ => hdy))
            · simp at hr
          · simp at hr
theorem opRes1_sound {r : Res} (hC : CG P C base w0) (hr : opRes1 P C wr o (opVals σ.env o) σ.heap = some r) (hp : r.need.ok) (hd : dstOk σ o.dst = true) (h : Rep base w0 σ a w)
    (hK : ∀ a' w', Rep base w0 (σ.apply o.dst r.val r.upd) a' w' → K a' w') : o.wp P a w K Q := by
  obtain ⟨h1, h2, h3, ref, hrep⟩ := id h
  have hop := hrep.den
  have hsubF : ∀ n B, restrict σ.heap (look o (opVals σ.env o) σ.heap) n = some B → B.live = true → σ.heap n = some B := fun n B h _ => restrict_self h
  have hhF := hrep.heapAt.restrict (look o (opVals σ.env o) σ.heap)
  unfold opRes1 at hr
  have hfrF : ∀ d, o.dst = some d → restrict σ.heap (look o (opVals σ.env o) σ.heap) d = none → σ.heap d = none := fun d he hn => (restrict_look (h := σ.heap) (h' := σ.heap) (vals := opVals σ.env o) d he).symm.trans hn
  generalize restrict σ.heap (look o (opVals σ.env o) σ.heap) = hpF at hr hsubF hhF hfrF
  split at hr
  · rename_i r' hD
    simp only [Option.some.injEq] at hr
    subst hr
    cases hm : deepM C <;> rw [hm] at hD <;> simp only [cond_true, cond_false, reduceCtorEq] at hD
    exact opDeep_sound (hC.bel h2) hD hp hd hrep h1 h2 h3 hsubF hfrF hhF hK
  rename_i hN
  clear hN
  have hh := hhF.hide
  have hsub : ∀ n B, hideD hpF n = some B → B.live = true → σ.heap n = some B := fun n B h hl => hsubF n B (hideD_live h hl) hl
  have hfr : ∀ d, o.dst = some d → hideD hpF d = none → σ.heap d = none := fun d he hn => hfrF d he (hideD_none hn)
  generalize hideD hpF = hp' at hr hsub hh hfr
  have hpure : PR.toRes (resPure P wr hp' o.op (opVals σ.env o)) = some r → o.wp P a w K Q := fun hr => by
    unfold PR.toRes at hr
    split at hr
    · rename_i p v hv
      simp only [Option.some.injEq] at hr
      subst hr
      obtain ⟨x, hx, hdx⟩ := pure_sound (c := cxOf base σ w ref) (w := w) hh hop rfl hv hp
      exact wp_value hx (hK _ _ (Rep.put hrep h1 h2 h3 hd fun _ => hdx))
    · simp at hr
  obtain ⟨dst, op, type, pos, after, guard⟩ := o
  cases op <;> first | exact hpure hr | skip
  case store t x v =>
    replace hr : resStore P hp' t (opVal σ.env x) (opVal σ.env v) = some r := hr
    obtain ⟨w', b, ob, hrun, hw, hge, hrep', hv, hne⟩ := store_sound (dst := dst) hrep hsub hh.plain hr hp (hop x) (hop v)
    refine wp_skip' (w' := w') (by simp [execOp, hrun]) (hK _ _ ?_)
    have hfin := Rep.fin (w0 := w0) (dst := dst) (v := .undef) (u := Go.undef) hrep' h1 (hw.below h2 hge) (by rw [hw.size]; exact h3) hd (fun _ => rfl)
    rw [hv]
    cases hu : r.upd with
    | nil => exact absurd hu hne
    | cons y ys => rw [hu] at hfin; exact hfin
  case convert sT dT x =>
    replace hr : (match resConvB P hp' sT dT (opVal σ.env x) with
      | some r => PR.toRes (some r)
      | none => PR.toRes (resPure P wr hp' (.convert sT dT x) [opVal σ.env x])) = some r := hr
    split at hr
    · rename_i q hq
      obtain ⟨p, v⟩ := q
      simp only [PR.toRes, Option.some.injEq] at hr
      subst hr
      obtain ⟨y, hy, hdy⟩ := convB_sound (w := w) rfl hh hq (hop x)
      exact wp_value (by simp [execOp, hy]) (hK _ _ (Rep.put hrep h1 h2 h3 hd fun _ => hdy))
    · exact hpure hr
  case alloc t =>
    replace hr : (match zeroOf P t with
      | some cs => bif cs.any isUnk then none else resNew hp' dst cs
      | none => none) = some r := hr
    split at hr
    · rename_i cs hz
      cases hb : cs.any isUnk <;> rw [hb] at hr <;> simp only [cond_true, cond_false, reduceCtorEq] at hr
      obtain ⟨v, hv, _⟩ := zeroOf_run (w := w) (c := cxOf base σ w ref) hz
      refine new_sound (us := v.cells.toList) (ty := t) h hfr hd hr ?_ (fun ref' _ => ?_) hK
      · simp [execOp, Instr.alloc, hv, newVar, newRow]
      · obtain ⟨v', hv', hd'⟩ := zeroOf_run (w := w) (c := cxOf base σ w ref') hz
        rw [hv] at hv'
        simp only [Result.ok.injEq, and_true] at hv'
        subst hv'
        exact hd'
    · simp at hr
  case box t x =>
    replace hr : (match cellsOf (opVal σ.env x) with
      | some cs => bif cs.any isUnk then none else resNew hp' dst cs
      | none => none) = some r := hr
    split at hr
    · rename_i cs hz
      cases hb : cs.any isUnk <;> rw [hb] at hr <;> simp only [cond_true, cond_false, reduceCtorEq] at hr
      refine new_sound (us := (a.eval x).cells.toList) (ty := t) h hfr hd hr ?_ (fun ref' hr' => ?_) hK
      · simp [execOp, Instr.box, newVar, newRow]
      · obtain ⟨vs, hvs, hdv⟩ := cellsOf_den hz (hr'.den x)
        rw [hvs]; exact hdv
    · simp at hr
  case build t parts =>
    replace hr : (match resBuildR P hp' dst t (parts.toList.map (·.1)) (opVals σ.env ⟨dst, .build t parts, type, pos, after, guard⟩) with
      | some r => some r
      | none => PR.toRes (resBuild P t ((parts.toList.map (·.1)).zip (opVals σ.env ⟨dst, .build t parts, type, pos, after, guard⟩)))) = some r := hr
    have e : opVals σ.env ⟨dst, .build t parts, type, pos, after, guard⟩ = (parts.toList.map (·.2)).map (opVal σ.env) := by
      simp [opVals, Op.operands]
    rw [e] at hr
    split at hr
    · rename_i r' hR
      simp only [Option.some.injEq] at hr
      subst hr
      obtain ⟨v', ref', hrun, g3, g4, g5⟩ := buildR_sound hrep hd hsub hh.plain hfr (opVals_den hop _) hR hp
      refine wp_value (w' := w) (v := v') (by simp [execOp, hrun]) (hK _ _ ?_)
      have hfin := Rep.fin (w0 := w0) (dst := dst) g3 h1 h2 h3 hd (fun _ => g4)
      cases hu : r'.upd with
      | nil => exact absurd hu g5
      | cons u us => rw [hu] at hfin; exact hfin
    unfold PR.toRes at hr
    split at hr
    · rename_i p v hv
      simp only [Option.some.injEq] at hr
      subst hr
      obtain ⟨x, hx, hdx⟩ := build_sound (w := w) (c := cxOf base σ w ref) hop hv
      exact wp_value (by simp [execOp, hx]) (hK _ _ (Rep.put hrep h1 h2 h3 hd fun _ => hdx))
    · simp at hr
  case makeSlice t l x =>
    replace hr : resMake P hp' dst t (opVal σ.env l) (opVal σ.env x) = some r := hr
    obtain ⟨v', w', ref', hrun, g1, g2, g3, g4, g5⟩ := make_sound hrep hd h2 h3 hfr hr hp (hop l) (hop x)
    refine wp_value (w' := w') (v := v') (by simp [execOp, hrun]) (hK _ _ ?_)
    have hfin := Rep.fin (w0 := w0) (dst := dst) g3 h1 g1 g2 hd (fun _ => g4)
    cases hu : r.upd with
    | nil => exact absurd hu g5
    | cons u us => rw [hu] at hfin; exact hfin
  case buildSlice t len parts =>
    have e : opVals σ.env ⟨dst, .buildSlice t len parts, type, pos, after, guard⟩ = (parts.toList.map (·.2)).map (opVal σ.env) := by
      simp [opVals, Op.operands]
    replace hr : resBuildSlice P hp' dst t len (parts.toList.map (·.1)) (opVals σ.env ⟨dst, .buildSlice t len parts, type, pos, after, guard⟩) = some r := hr
    rw [e] at hr
    obtain ⟨v', w', ref', hrun, g1, g2, g3, g4, g5⟩ := buildSlice_sound hrep hd h2 h3 hsub hfr hop hr
    refine wp_value (w' := w') (v := v') (by simp [execOp, hrun]) (hK _ _ ?_)
    have hfin := Rep.fin (w0 := w0) (dst := dst) g3 h1 g1 g2 hd (fun _ => g4)
    cases hu : r.upd with
    | nil => exact absurd hu g5
    | cons u us => rw [hu] at hfin; exact hfin
  case call cl =>
    obtain ⟨callee, args, ts⟩ := cl
    cases callee with
    | invoke r m => exact hpure hr
    | builtin b =>
      by_cases hb : b = .append
      · subst hb
        rcases args with ⟨_ | ⟨x, _ | ⟨y, _ | ⟨z, l⟩⟩⟩⟩ <;> first | exact hpure hr | (simp [opRes0, opVals, Op.operands, Call.operands, resPure, PR.toRes] at hr; done) | skip
        replace hr : resAppend P hp' dst ts.toList (opVal σ.env x) (opVal σ.env y) = some r := hr
        obtain ⟨v', w', ref', hrun, g1, g2, g3, g4, g5⟩ := append_sound (ty := type) hrep hd h2 h3 hsub hfr hh hr hp (hop x) (hop y)
        refine wp_value (w' := w') (v := v') (by simp [execOp, resolve, invoke, builtin, hrun]) (hK _ _ ?_)
        have hfin := Rep.fin (w0 := w0) (dst := dst) g3 h1 g1 g2 hd (fun _ => g4)
        cases hu : r.upd with
        | nil => exact absurd hu g5
        | cons u us => rw [hu] at hfin; exact hfin
      · by_cases hb2 : b = .clear
        · subst hb2
          rcases args with ⟨_ | ⟨x, _ | ⟨y, l⟩⟩⟩ <;> first | exact hpure hr | (simp [opRes0, opVals, Op.operands, Call.operands, resPure, PR.toRes] at hr; done) | skip
          replace hr : resClear P hp' ts.toList (opVal σ.env x) = some r := hr
          obtain ⟨w', b, ob, hrun, hw, hge, g3, g4, g5⟩ := clear_sound (ty := type) hrep hsub hh.plain hr hp (hop x)
          refine wp_value (w' := w') (v := .tuple #[]) (by simp [execOp, resolve, invoke, builtin, hrun]) (hK _ _ ?_)
          have hfin := Rep.fin (w0 := w0) (dst := dst) (v := .tup []) (u := .tuple #[]) g3 h1 (hw.below h2 hge) (by rw [hw.size]; exact h3) hd (fun _ => ⟨[], rfl, rfl⟩)
          rw [g4]
          cases hu : r.upd with
          | nil => exact absurd hu g5
          | cons u us => rw [hu] at hfin; exact hfin
        · cases b <;> first | exact (hb rfl).elim | exact (hb2 rfl).elim | exact hpure hr
    | value f =>
      cases f with
      | tmp t =>
        have e : opVals σ.env ⟨dst, .call ⟨.value (.tmp t), args, ts⟩, type, pos, after, guard⟩ = σ.env t :: args.toList.map (opVal σ.env) := by
          simp [opVals, Op.operands, Call.operands, opVal]
        rw [e] at hr
        have ht := hop (.tmp t)
        change Den _ (σ.env t) _ at ht
        generalize σ.env t = x at hr ht
        cases x <;> first
          | (simp [opRes0, resPure, PR.toRes] at hr; done)
          | skip
        case fn f =>
          replace hr : resCall P C hpF dst f (args.toList.map (opVal σ.env)) = some r := hr
          refine call_sound (us := args.toList.map a.eval) (hC.bel h2) hrep h1 h2 h3 hsubF hfrF hhF hd hr hp (opVals_den hop _) (fun he => ?_) hK
          have e2 : (args.toList.map a.eval).toArray = args.map a.eval := by apply Array.ext'; simp
          rw [e2]
          have ht : a.eval (.tmp t) = .func (.func f) #[] #[] := ht
          have := clo_run (P := P) (w := w) (a := a) (o := ⟨dst, .call ⟨.value (.tmp t), args, ts⟩, type, pos, after, guard⟩) (caps := #[]) rfl ht he
          simpa using this
        case clo f cs =>
          replace hr : resCall P C hpF dst f (args.toList.map (opVal σ.env) ++ cs) = some r := hr
          obtain ⟨vs, ht, hdc⟩ := ht
          refine call_sound (us := args.toList.map a.eval ++ vs) (hC.bel h2) hrep h1 h2 h3 hsubF hfrF hhF hd hr hp ((opVals_den hop _).append hdc) (fun he => ?_) hK
          have e2 : (args.toList.map a.eval ++ vs).toArray = args.map a.eval ++ vs.toArray := by apply Array.ext'; simp
          rw [e2]
          exact clo_run rfl ht he
      | const v => exact hpure hr
      | global g => exact hpure hr
      | func f =>
        have e : opVals σ.env ⟨dst, .call ⟨.value (.func f), args, ts⟩, type, pos, after, guard⟩ = .fn f :: args.toList.map (opVal σ.env) := by
          simp [opVals, Op.operands, Call.operands, opVal]
        replace hr : resCall2 P C hpF dst f (opVals σ.env ⟨dst, .call ⟨.value (.func f), args, ts⟩, type, pos, after, guard⟩).tail = some r := hr
        rw [e, List.tail_cons] at hr
        refine call2_sound (us := args.toList.map a.eval) (hC.bel h2) hrep h1 h2 h3 hsubF hfrF hhF hd hr hp (opVals_den hop _) (fun he => ?_) hK
        have e2 : (args.toList.map a.eval).toArray = args.map a.eval := by apply Array.ext'; simp
        rw [e2]
        exact call_run rfl he
theorem closeOf_spec {h : Nat → Option Blk} {nm d : Nat} {B : Blk} (hc : closeOf h nm = some (B, d)) :
    ∃ t e xs i off l y, h nm = some (.hole t e xs i off d) ∧ h d = some (.row e l) ∧ d ≠ nm ∧ nm ≠ BR ∧ decT t (sp1 (enc t (xs.getD i t.zero)) off (.view e l)) = some y ∧ B = .row (.deep t) (xs.set i y) := by
  unfold closeOf at hc
  split at hc
  · rename_i t e xs i off d' hnm
    split at hc
    · rename_i e' l hd
      split at hc
      · rename_i he
        subst he
        split at hc
        · rename_i y hy
          cases hb : (!(Nat.beq d' nm) && !(Nat.beq nm 700000)) <;> rw [hb] at hc <;> simp only [cond_true, cond_false, reduceCtorEq, Option.some.injEq, Prod.mk.injEq] at hc
          obtain ⟨rfl, rfl⟩ := hc
          simp only [Bool.and_eq_true, Bool.not_eq_true'] at hb
          exact ⟨t, e', xs, i, off, l, y, hnm, hd, fun he => by rw [he] at hb; simp at hb, fun he => by rw [he] at hb; simp [BR] at hb, hy, rfl⟩
        · simp at hc
      · simp at hc
    · simp at hc
  · simp at hc
theorem closeN_spec {h : Nat → Option Blk} : ∀ {ns : List Nat} {nm d : Nat} {B : Blk}, closeN h ns = some (nm, B, d) → closeOf h nm = some (B, d)
  | [], _, _, _, hc => by simp [closeN] at hc
  | n :: ns, nm, d, B, hc => by
    unfold closeN at hc
    split at hc
    · rename_i B' d' e
      simp only [Option.some.injEq, Prod.mk.injEq] at hc
      obtain ⟨rfl, rfl, rfl⟩ := hc
      exact e
    · exact closeN_spec hc
theorem apply_app {σ : St} {dst : Option Nat} {v : AV} {upd : List (Nat × Blk)} {k : Nat × Blk} {ks : List (Nat × Blk)} : ({ σ with heap := fun m => findU (k :: ks) m (σ.heap m) } : St).apply dst v upd = σ.apply dst v (upd ++ k :: ks) := by
  cases upd with
  | nil => rfl
  | cons u us =>
    simp only [St.apply, List.cons_append]
    congr 1
    funext m
    rw [← List.cons_append, findU_app]
theorem opRes_sound {r : Res} (hC : CG P C base w0) (hr : opRes P C wr o (opVals σ.env o) σ.heap = some r) (hp : r.need.ok) (hd : dstOk σ o.dst = true) (h : Rep base w0 σ a w)
    (hK : ∀ a' w', Rep base w0 (σ.apply o.dst r.val r.upd) a' w' → K a' w') : o.wp P a w K Q := by
  unfold opRes at hr
  split at hr
  · rename_i n B d hcl
    split at hr
    · rename_i r0 hr0
      simp only [Option.some.injEq] at hr
      subst hr
      cases hm : (deepM C && !(isMove o.op)) <;> rw [hm] at hcl <;> simp only [cond_true, cond_false, reduceCtorEq] at hcl
      obtain ⟨t, e, xs, i, off, l, y, k1, k2, k3, k4, k5, rfl⟩ := closeOf_spec (closeN_spec hcl)
      obtain ⟨h1, h2, h3, ref, hrep⟩ := h
      obtain ⟨ref', hrep'⟩ := hrep.close k1 k2 k3 k4 k5
      refine opRes1_sound (σ := { σ with heap := fun m => findU [(n, .row (.deep t) (xs.set i y)), (d, .dead)] m (σ.heap m) }) hC hr0 hp hd ⟨h1, h2, h3, ref', hrep'⟩ fun a' w' hR => ?_
      rw [apply_app] at hR
      exact hK _ _ hR
    · simp at hr
  · exact opRes1_sound hC hr hp hd h hK
end
end Sx
end Go.Proofs.Ytemlpimibhijoaa
