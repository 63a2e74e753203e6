/- A law that answers true meets its statement; its arguments are opened by their types. Conditions: as each says. -/
import Derived.Test.YtemlpimibhijoaaRows
import Derived.Test.YtemlpimibhijoaaSxP
import Derived.ProofKit
import Derived.Lib.SmallJoins
import Derived.SizedLaws
set_option linter.unusedSimpArgs false
set_option linter.unusedVariables false
namespace Go.Proofs.Ytemlpimibhijoaa
open Go.RowKit
/-! ### the last step of a law -/
open Go.ChangeShapes Go.WideShapes Go.ChangeAt Go.Deep
section
variable {H : Type} {enc : TypeId × Value → H} {P : Program}
theorem trodAll_stays (hl : laidOutB P = true) {W W' : World} {sp' : Nat → Bool} : ∀ (ts : List TypeId) (vs : List Value) (ds : List (DataW H)) (ps : List MemPlace),
    (∀ t ∈ ts, P.readableRec t = true ∧ t < P.types.size) → DataW.TrodAll enc P W 0 (fun _ => true) true ts vs ds ps → (∀ p ∈ ps, W.sameAt W' p) → (∀ p ∈ ps, sp' p.block = true) → DataW.TrodAll enc P W' 0 sp' true ts vs ds ps
  | [], [], [], _, _, h, _, _ => h
  | t :: ts, v :: vs, d :: ds, ps, hr, h, hs, hp => by
    obtain ⟨p, q, h1, h2, rfl⟩ := h
    refine ⟨p, q, Go.WideElems.Trod_stays hl (hr t (by simp)).1 (hr t (by simp)).2 h1 (fun x hx => hs x (by simp [hx])) (fun x hx => hp x (by simp [hx])), ?_, rfl⟩
    exact trodAll_stays hl ts vs ds q (fun x hx => hr x (by simp [hx])) h2 (fun x hx => hs x (by simp [hx])) (fun x hx => hp x (by simp [hx]))
  | [], _ :: _, _, _, _, h, _, _ => by cases h
  | _ :: _, [], _, _, _, h, _, _ => by cases h
  | [], [], _ :: _, _, _, h, _, _ => by cases h
  | _ :: _, _ :: _, [], _, _, h, _, _ => by cases h
theorem trodAll_length {W : World} {b : Nat} {sp : Nat → Bool} {hd : Bool} : ∀ (ts : List TypeId) (vs : List Value) (ds : List (DataW H)) (ps : List MemPlace), DataW.TrodAll enc P W b sp hd ts vs ds ps → ds.length = ts.length
  | [], [], [], _, _ => rfl
  | _ :: ts, _ :: vs, _ :: ds, _, h => by
    obtain ⟨_, q, _, h2, _⟩ := h
    simp [trodAll_length ts vs ds q h2]
  | [], _ :: _, _, _, h => by cases h
  | _ :: _, [], _, _, h => by cases h
  | [], [], _ :: _, _, h => by cases h
  | _ :: _, _ :: _, [], _, h => by cases h

/-- A law that answers true and has written nothing that was there meets its statement's post. -/
theorem law_post {f : Func} {s : ChangeSpec} {apart fresh handsOn again : Bool} {W W' : World} {args : Array Value} {ds gs : List (DataW H)} {before : List MemPlace} {tb : TypeId}
    (hl : laidOutB P = true) (hr : ∀ t ∈ f.params.toList, P.readableRec t = true ∧ t < P.types.size) (htb : P.underlying tb = some .bool) (hrt : f.resultTypes = #[tb]) (hvars : s.vars = [])
    (hs : ∀ ds : List (DataW H), ds.length = f.params.toList.length → s.fn H ds = { results := [.lit (.bool true)], args := ds })
    (hW : DataW.Whole enc P f.params.toList s.vars apart W args.toList ds gs before) (hb : Below W.heap.size W W') :
    s.post enc P f apart fresh handsOn again W args (.bool true) W' := by
  obtain ⟨p, q, hA, hV, rfl, hz, hn⟩ := hW
  have hV0 := hV
  rw [hvars] at hV0
  obtain ⟨rfl, rfl⟩ := trodVars_none hV0
  have hW : DataW.Whole enc P f.params.toList s.vars apart W args.toList ds [] (p ++ []) := ⟨p, [], hA, hV, rfl, hz, hn⟩
  have hlen := trodAll_length _ _ _ _ hA
  have hlt : ∀ x ∈ p, x.block < W.heap.size := fun x hx => hW.lt x (by simpa using hx)
  have hfn : s.fn H (ds ++ []) = { results := [.lit (.bool true)], args := ds } := by rw [List.append_nil]; exact hs ds hlen
  have hargs : ∀ sp : Nat → Bool, (∀ x ∈ p, sp x.block = true) → DataW.TrodAll enc P W' 0 sp true f.params.toList args.toList ds p := fun sp h => trodAll_stays hl _ _ _ _ hr hA (fun x hx => hb.same (hlt x hx)) h
  have hvar : ∀ sp : Nat → Bool, DataW.TrodVars enc P W' sp s.vars ([] : List (DataW H)) [] := fun _ => by rw [hvars]; rfl
  have hres : ∀ (b : Nat) (sp : Nat → Bool) (hd : Bool), DataW.TrodAll enc P W' b sp hd f.resultTypes.toList ((Value.bool true).resultList f.resultTypes.size) [.lit (.bool true)] [] := fun b sp hd => by
    rw [hrt]; exact trodAll_mk1 (shut_bool htb true)
  refine ⟨ds, [], p ++ [], [], p, [], hW, ?_, ?_, ?_, World.keptBut_mono (fun x hx => ⟨hx, .inr (.inl (by simpa using hx))⟩) (hb.frame (· ∈ p ++ [])), fun _ => ?_⟩
  · rw [hfn]; exact hres _ _ _
  · rw [hfn]; exact hargs _ (fun x hx => by simpa using hlt x hx)
  · rw [hfn]; exact hvar _
  · refine ⟨ok_one hrt rfl (okWide_bool_mk htb _), [.lit (.bool true)] ++ ds, [], ([] ++ p) ++ [], ⟨[] ++ p, [], trodAll_append (hargs _ (fun _ _ => rfl)) (hres _ _ _), hvar _, rfl, ?_, ?_⟩, ?_⟩
    · intro b off hp
      have hin : MemPlace.cell b off ∈ p ++ [] := by simpa using hp
      rw [hb.frozen (hlt _ (by simpa using hin))]
      exact hz b off hin
    · intro ha
      have := hn ha
      simpa using this
    · intro x hx _
      simpa using hx
end


/-! ### the arguments, by their types -/
open Sx
/-- The type of data of a type, where its cells lie one behind the other. -/
def tyW (P : Program) : Nat → TypeId → Option Ty
  | 0, _ => none
  | n + 1, t => match P.underlying t with
    | some (.int k) => bif Nat.beq (P.cellsOf t) 1 then some (.int k) else none
    | some .bool => bif Nat.beq (P.cellsOf t) 1 then some .bool else none
    | some .string => bif Nat.beq (P.cellsOf t) 1 then some .str else none
    | some (.slice e) => match tyW P n e with
      | some u => bif Nat.beq (P.cellsOf t) 1 && Nat.beq (P.cellsOf e) u.size then some (.seq u) else none
      | none => none
    | some (.struct fs) => fields (tyW P n) (P.cellsOf t) 0 fs.toList
    | _ => none
where fields (f : TypeId → Option Ty) (total : Nat) : Nat → List Field → Option Ty
  | _, [] => none
  | off, [fd] => match f fd.type with
    | some a => bif Nat.beq fd.offset off && (Nat.beq (P.cellsOf fd.type) a.size && Nat.beq (off + a.size) total) then some a else none
    | none => none
  | off, fd :: rest => match f fd.type with
    | some a => match fields f total (off + a.size) rest with
      | some b => bif Nat.beq fd.offset off && Nat.beq (P.cellsOf fd.type) a.size then some (.pair a b) else none
      | none => none
    | none => none
/-- Integers are in their kinds' bounds. -/
def Wf : (t : Ty) → t.den → Prop
  | .int k, z => inK k z
  | .bool, _ => True
  | .str, s => s.length ≤ maxLen
  | .pair a b, x => Wf a x.1 ∧ Wf b x.2
  | .seq t, xs => xs.length ≤ maxLen ∧ ∀ x ∈ xs, Wf t x
  | .deep t, x => Wf t x
section
variable {H : Type} {enc : TypeId × Value → H} {P : Program} {w : World}
theorem lit_in {k : IntKind} {n : Int} (h : (Lit.int k n).wf = true) : inK k n := by
  cases k <;> simp [Lit.wf, IntKind.min, IntKind.max, IntKind.signed, IntKind.bits] at h <;> simp only [inK] <;> omega
theorem cell_lt {b o : Nat} {sp : Option Nat} {v : Value} (h : w.cell? ⟨b, o, sp⟩ = some v) : sp = none ∧ b < w.heap.size := by
  unfold World.cell? at h
  split at h
  · rename_i c e f hb
    have hlt : b < w.heap.size := by
      rcases Nat.lt_or_ge b w.heap.size with h' | h'
      · exact h'
      · rw [Array.getElem?_eq_none h'] at hb; simp at hb
    cases sp with
    | none => exact ⟨rfl, hlt⟩
    | some s => simp at h
  · simp at h
theorem trod_reads : ∀ (fuel m : Nat) {t : TypeId} {ty : Ty} {cs : List Value} {y : DataW H × List MemPlace}, tyW P m t = some ty → DataW.trod enc P w 0 (fun _ => true) true fuel t cs = some y →
    ∃ x : ty.den, Wf ty x ∧ Reads w (fun b => b < w.heap.size) ty x cs := by
  intro fuel
  induction fuel with
  | zero => intro m t ty cs y _ h; simp [DataW.trod] at h
  | succ fuel ih =>
    intro m t ty cs y hty h
    cases m with
    | zero => simp [tyW] at hty
    | succ m =>
      simp only [tyW] at hty
      split at hty
      · rename_i k hu
        cases hb : Nat.beq (P.cellsOf t) 1 <;> rw [hb] at hty <;> simp only [cond_true, cond_false, Option.some.injEq, reduceCtorEq] at hty
        subst hty
        obtain ⟨n, rfl, _, hw⟩ := DataW.trod_int hu h
        exact ⟨n, lit_in hw, rfl⟩
      · rename_i hu
        cases hb : Nat.beq (P.cellsOf t) 1 <;> rw [hb] at hty <;> simp only [cond_true, cond_false, Option.some.injEq, reduceCtorEq] at hty
        subst hty
        obtain ⟨b, rfl, _⟩ := DataW.trod_bool hu h
        exact ⟨b, trivial, rfl⟩
      · rename_i hu
        cases hb : Nat.beq (P.cellsOf t) 1 <;> rw [hb] at hty <;> simp only [cond_true, cond_false, Option.some.injEq, reduceCtorEq] at hty
        subst hty
        obtain ⟨s, rfl, _, hl⟩ := DataW.trod_string hu h
        exact ⟨s.data.toList, (by show s.data.toList.length ≤ maxLen; rw [Array.length_toList]; exact hl), rfl⟩
      · rename_i e hu
        split at hty
        · rename_i u he
          cases hb : (Nat.beq (P.cellsOf t) 1 && Nat.beq (P.cellsOf e) u.size) <;> rw [hb] at hty <;> simp only [cond_true, cond_false, Option.some.injEq, reduceCtorEq] at hty
          subst hty
          simp only [Bool.and_eq_true] at hb
          have hsz : P.cellsOf e = u.size := Nat.eq_of_beq_eq_true hb.2
          rcases DataW.trod_slice hu h with ⟨rfl, _⟩ | ⟨a, len, cap, elems, rest, n, hf, rfl, _, hb0, hlc, hmx, hel, hget, _⟩
          · exact ⟨[], ⟨by simp, by simp⟩, none, 0, rfl, Nat.le_refl _, .inl rfl⟩
          · have hfn : n = fuel := by omega
            subst hfn
            have hx : ∀ i, i < len → ∃ x : u.den, Wf u x ∧ ∃ us, Reads w (fun b => b < w.heap.size) u x us ∧ us.length = u.size ∧ ∀ j, j < u.size → w.cell? ((a.add (i * P.cellsOf e)).add j) = us[j]? := by
              intro i hi
              have hg := hget i hi
              rw [List.getElem?_eq_getElem (by omega)] at hg
              cases hc : w.cells? 0 (a.add (i * P.cellsOf e)) (P.cellsOf e) with
              | none => rw [hc] at hg; simp at hg
              | some us =>
                rw [hc] at hg
                simp only [Option.bind_some] at hg
                obtain ⟨x, hw, hr⟩ := ih m he hg
                obtain ⟨_, hlen, hcell⟩ := World.cells?_some hc
                exact ⟨x, hw, us, hr, by omega, fun j hj => hcell j (by omega)⟩
            let xs : List u.den := (List.range len).attach.map fun i => Classical.choose (hx i.1 (List.mem_range.1 i.2))
            have hxs : ∀ i (h : i < xs.length), ∃ hi : i < len, xs[i] = Classical.choose (hx i hi) := fun i h => by
              have hi : i < len := by simpa [xs] using h
              exact ⟨hi, by simp [xs]⟩
            have hlen : xs.length = len := by simp [xs]
            have hsp := u.size_pos
            refine ⟨xs, ⟨by rw [hlen]; omega, fun x hx' => ?_⟩, some a, cap, by rw [hlen], by omega, ?_⟩
            · obtain ⟨i, hi, rfl⟩ := List.getElem_of_mem hx'
              obtain ⟨hi', e1⟩ := hxs i hi
              rw [e1]; exact (Classical.choose_spec (hx i hi')).1
            · by_cases h0 : len = 0
              · exact .inl (List.eq_nil_of_length_eq_zero (by omega))
              · right
                obtain ⟨b, o, sp⟩ := a
                obtain ⟨_, us0, _, hl0, hc0⟩ := Classical.choose_spec (hx 0 (by omega))
                have h00 := hc0 0 hsp
                rw [List.getElem?_eq_getElem (by omega)] at h00
                have hadd : ∀ (q : Addr), q.add 0 = q := fun q => by simp [Addr.add]
                rw [Nat.zero_mul, hadd, hadd] at h00
                obtain ⟨rfl, hlt⟩ := cell_lt h00
                refine ⟨b, o, rfl, hlt, fun i hi => ?_⟩
                obtain ⟨hi', e1⟩ := hxs i hi
                obtain ⟨_, us, hr, hl, hc⟩ := Classical.choose_spec (hx i hi')
                refine ⟨us, by rw [e1]; exact hr, fun j hj => ?_⟩
                have := hc j (by omega)
                rw [add_addr, add_addr, hsz, List.getElem?_eq_getElem hj] at this
                exact this
        · simp at hty
      · rename_i fs hu
        obtain ⟨xs, n, hf, _, hcl, hxl, hget⟩ := DataW.trod_struct hu h
        have hfn : n = fuel := by omega
        subst hfn
        have hget' : ∀ (i : Nat) (f : Field), fs.toList[i]? = some f → ∃ y, DataW.trod enc P w 0 (fun _ => true) true n f.type ((cs.drop f.offset).take (P.cellsOf f.type)) = some y := fun i f hi => by
          have hi' : fs[i]? = some f := by simpa using hi
          rw [hget i f hi']
          have : i < xs.length := by
            rw [hxl]
            rcases Nat.lt_or_ge i fs.size with h | h
            · exact h
            · rw [Array.getElem?_eq_none h] at hi'; simp at hi'
          exact ⟨_, List.getElem?_eq_getElem this⟩
        have key : ∀ (l : List Field) (off : Nat) {ty : Ty}, tyW.fields P (tyW P m) (P.cellsOf t) off l = some ty → (∀ f ∈ l, ∃ y, DataW.trod enc P w 0 (fun _ => true) true n f.type ((cs.drop f.offset).take (P.cellsOf f.type)) = some y) →
            ∃ x : ty.den, Wf ty x ∧ Reads w (fun b => b < w.heap.size) ty x (cs.drop off) := by
          intro l
          induction l with
          | nil => intro off ty h; simp [tyW.fields] at h
          | cons fd rest ihl =>
            intro off ty hh hall
            cases rest with
            | nil =>
              simp only [tyW.fields] at hh
              split at hh
              · rename_i a ha
                cases hb : (Nat.beq fd.offset off && (Nat.beq (P.cellsOf fd.type) a.size && Nat.beq (off + a.size) (P.cellsOf t))) <;> rw [hb] at hh <;> simp only [cond_true, cond_false, Option.some.injEq, reduceCtorEq] at hh
                subst hh
                simp only [Bool.and_eq_true] at hb
                have e1 : fd.offset = off := Nat.eq_of_beq_eq_true hb.1
                have e2 : P.cellsOf fd.type = a.size := Nat.eq_of_beq_eq_true hb.2.1
                have e3 : off + a.size = P.cellsOf t := Nat.eq_of_beq_eq_true hb.2.2
                obtain ⟨y, hy⟩ := hall fd (by simp)
                obtain ⟨x, hw, hr⟩ := ih m ha hy
                rw [e1, e2, List.take_of_length_le (by simp; omega)] at hr
                exact ⟨x, hw, hr⟩
              · simp at hh
            | cons fd2 rest =>
              simp only [tyW.fields] at hh
              split at hh
              · rename_i a ha
                split at hh
                · rename_i b hb'
                  cases hb : (Nat.beq fd.offset off && Nat.beq (P.cellsOf fd.type) a.size) <;> rw [hb] at hh <;> simp only [cond_true, cond_false, Option.some.injEq, reduceCtorEq] at hh
                  subst hh
                  simp only [Bool.and_eq_true] at hb
                  have e1 : fd.offset = off := Nat.eq_of_beq_eq_true hb.1
                  have e2 : P.cellsOf fd.type = a.size := Nat.eq_of_beq_eq_true hb.2
                  obtain ⟨y, hy⟩ := hall fd (by simp)
                  obtain ⟨x, hw, hr⟩ := ih m ha hy
                  obtain ⟨z, hw2, hr2⟩ := ihl (off + a.size) hb' (fun f hf => hall f (by simp [hf]))
                  rw [e1, e2] at hr
                  refine ⟨(x, z), ⟨hw, hw2⟩, _, _, ?_, hr, hr2⟩
                  rw [← List.drop_drop, List.take_append_drop]
                · simp at hh
              · simp at hh
        have := key fs.toList 0 hty (fun f hf => by
          obtain ⟨i, hi⟩ := List.getElem?_of_mem hf
          exact hget' i f hi)
        simpa using this
      · simp at hty
/-- The shape of an argument of a type. -/
def shOf (P : Program) (t : TypeId) : Option Sh :=
  match tyW P 8 t with
  | some ty => match P.underlying t with
    | some (.struct _) => some (.s ty)
    | _ => bif Nat.beq ty.size 1 then some (.v ty) else none
  | none => none
def WfSh : (s : Sh) → s.den → Prop
  | .v t, x => Wf t x
  | .s t, x => Wf t x
  | .p t, x => Wf t x
  | .ov t, x => Wf t x
  | .os t, x => Wf t x
  | .f _, _ => True
  | .c1 _ t, x => Wf t x
  | .c2 _ t t2, x => Wf t x.1 ∧ Wf t2 x.2
def WfA : (l : List Sh) → Args l → Prop
  | [], _ => True
  | s :: l, x => WfSh s x.1 ∧ WfA l x.2
theorem open_sh {r : Reach} {b0 : Nat} {t : TypeId} {s : Sh} {v : Value} {d : DataW H} {p : List MemPlace} (hs : shOf P t = some s) (hv : Value.okWide P w r b0 t v) (h : DataW.Trod enc P w 0 (fun _ => true) true t v d p) :
    ∃ x : s.den, WfSh s x ∧ Den (pureCx w) (encSh s x) v := by
  obtain ⟨fuel, h⟩ := h
  unfold shOf at hs
  split at hs
  · rename_i ty hty
    obtain ⟨x, hw, hr⟩ := trod_reads fuel 8 hty h
    have hden : DenL (pureCx w) (Sx.enc ty x) v.cells.toList := enc_den (c := pureCx w) (Reads.mono (fun _ h => ⟨h, trivial⟩) (fun _ _ _ => rfl) hr)
    split at hs
    · rename_i fs hu
      simp only [Option.some.injEq] at hs
      subst hs
      unfold Value.okWide at hv
      rw [hu] at hv
      obtain ⟨cs, rfl, _⟩ := hv
      exact ⟨x, hw, cs.toList, by simp, hden⟩
    · rename_i hns
      cases hb : Nat.beq ty.size 1 <;> rw [hb] at hs <;> simp only [cond_true, cond_false, Option.some.injEq, reduceCtorEq] at hs
      subst hs
      have h1 : ty.size = 1 := Nat.eq_of_beq_eq_true hb
      refine ⟨x, hw, ?_⟩
      rw [enc_one_cell h1] at hden
      obtain ⟨v', vs', hv', hd, hvs⟩ := hden
      simp only [DenL] at hvs
      subst hvs
      have hne : ∀ cs, v ≠ .agg cs := by
        rintro cs rfl
        simp only [tyW] at hty
        unfold Value.okWide at hv
        split at hty <;> rename_i hu
        all_goals first
          | (rw [hu] at hv; simp [Cell.okWide, hu, Cell.ok] at hv; done)
          | skip
        · exact hns _ hu
        · simp at hty
      have : v = v' := by
        cases v <;> first | exact (hne _ rfl).elim | (simp only [Value.cells, List.cons.injEq, and_true] at hv'; exact hv') | (simpa [Value.cells] using hv')
      rw [this]; exact hd
  · simp at hs
def shsOf (P : Program) : List TypeId → Option (List Sh)
  | [] => some []
  | t :: ts => match shOf P t, shsOf P ts with
    | some s, some l => some (s :: l)
    | _, _ => none
theorem open_all {r : Reach} {b0 : Nat} : ∀ {ts : List TypeId} {l : List Sh} {vs : List Value} {ds : List (DataW H)} {p : List MemPlace}, shsOf P ts = some l → (∀ (j : Nat) t v, ts[j]? = some t → vs[j]? = some v → Value.okWide P w r b0 t v) →
    DataW.TrodAll enc P w 0 (fun _ => true) true ts vs ds p → ∃ x : Args l, WfA l x ∧ DenL (pureCx w) (encA l x) vs
  | [], l, [], [], _, hs, _, _ => by
    simp only [shsOf, Option.some.injEq] at hs
    subst hs
    exact ⟨(), trivial, rfl⟩
  | t :: ts, l, v :: vs, d :: ds, _, hs, hv, h => by
    simp only [shsOf] at hs
    split at hs
    · rename_i s l' h1 h2
      simp only [Option.some.injEq] at hs
      subst hs
      obtain ⟨p, q, g1, g2, rfl⟩ := h
      obtain ⟨x, hw, hd⟩ := open_sh h1 (hv 0 t v rfl rfl) g1
      obtain ⟨y, hw2, hd2⟩ := open_all h2 (fun j t v a b => hv (j + 1) t v (by simpa using a) (by simpa using b)) g2
      exact ⟨(x, y), ⟨hw, hw2⟩, v, vs, rfl, hd, hd2⟩
    · simp at hs
  | [], _, _ :: _, _, _, _, _, h => by cases h
  | _ :: _, _, [], _, _, _, _, h => by cases h
  | [], _, [], _ :: _, _, _, _, h => by cases h
  | _ :: _, _, _ :: _, [], _, _, _, h => by cases h
/-- The world of a law is as the contracts want it (a seat without tables). -/
theorem good0 {w : World} : Inv w := trivial
/-- A law's contract: true, whatever the data. -/
theorem law_calls {f : FuncId} {l : List Sh} {pre : Args l → Nd} (hs : Sat P f (ctOf l pre fun _ => .bool true)) {args : Array Value} {x : Args l} (hp : (pre x).ok) (hd : DenL (pureCx w) (encA l x) args.toList) (hdec : decA l (encA l x) = some x) (hno : noOwn l = true := by rfl) :
    Calls P f args w fun e w' => e = .returned (.bool true) ∧ Below w.heap.size w w' := by
  have h := hs (encA l x) (pre x) (.bool true) (by simp [hdec, hno]) hp w _ args.toList ⟨good0, Nat.zero_le _, fun _ hx => hx.elim⟩ hd
  rw [Array.toArray_toList] at h
  refine h.mono ?_
  rintro e w' ⟨r, rfl, ⟨u, hr, _⟩, hb⟩
  have hr : r = .bool true := hr
  exact ⟨by rw [hr], hb.below⟩
end
theorem Try.own : ownKnob Try.prog.godebug = none := by kernel_rfl
theorem Try.laidOut : laidOutB Try.prog = true := by kernel_rfl
theorem len_le {n : Nat} (h : n ≤ maxLen) : (n : Int) ≤ 9223372036854775807 := by
  have : maxLen = 9223372036854775807 := rfl
  omega
end Go.Proofs.Ytemlpimibhijoaa
