/- The evaluator: code, loops, functions. Conditions: as each says. -/
import Derived.Test.YtemlpimibhijoaaSxK
import Derived.Deep.LoopGhost
set_option linter.unusedSimpArgs false
set_option linter.unusedVariables false
namespace Go.Proofs.Ytemlpimibhijoaa
open Go.RowKit
namespace Sx
/-- A loop is known by the first region in it. -/
def firstId : Code → Nat
  | .region id _ _ => id
  | .seq a _ => firstId a
  | .cond _ a _ => firstId a
  | .block _ a => firstId a
  | .loop a => firstId a
  | _ => 0
def loopsOf : Code → List Code
  | .seq a b => loopsOf a ++ loopsOf b
  | .cond _ a b => loopsOf a ++ loopsOf b
  | .block _ a => loopsOf a
  | .loop a => a :: loopsOf a
  | _ => []
def LTree.run {α : Type} (k : Ex → List AV → List (List AV) → Tree α) : LTree → Tree α
  | .leaf e v b => k e v b
  | .ite c a b => .ite c (a.run k) (b.run k)
theorem LTree.run_ok {α : Type} {Q : α → Prop} {k : Ex → List AV → List (List AV) → Tree α} : ∀ {t : LTree}, (t.run k).ok Q → (k t.val.1 t.val.2.1 t.val.2.2).ok Q
  | .leaf e v b, h => h
  | .ite c a b, h => by
    cases c
    · exact LTree.run_ok (t := b) (h.2 rfl)
    · exact LTree.run_ok (t := a) (h.1 rfl)
section
variable {α : Type}
def forceBs : List (List AV) → (List (List AV) → Tree α) → Tree α
  | [], c => c []
  | x :: xs, c => forceCells x fun x => forceBs xs fun xs => c (x :: xs)
def forceBlks : List Blk → (List Blk → Tree α) → Tree α
  | [], c => c []
  | .box cs :: xs, c => forceCells cs fun cs => forceBlks xs fun xs => c (.box cs :: xs)
  | .row t xs' :: xs, c => forceBlks xs fun xs => c (.row t xs' :: xs)
  | .dead :: xs, c => forceBlks xs fun xs => c (.dead :: xs)
  | .hole t e xs' i off d :: xs, c => forceBlks xs fun xs => c (.hole t e xs' i off d :: xs)
def forceLD (d : LD) (c : LD → Tree α) : Tree α :=
  match d with
  | ⟨s, b, v, x⟩ => forceAgs s fun s => forceBlks b fun b => forceAgs v fun v => forceBs x fun x => c ⟨s, b, v, x⟩
theorem forceBs_eq : ∀ (l : List (List AV)) (c : List (List AV) → Tree α), forceBs l c = c l
  | [], _ => rfl
  | x :: xs, c => by simp only [forceBs, forceCells_eq, forceBs_eq xs]
theorem forceBlks_eq : ∀ (l : List Blk) (c : List Blk → Tree α), forceBlks l c = c l
  | [], _ => rfl
  | .box cs :: xs, c => by simp only [forceBlks, forceCells_eq, forceBlks_eq xs]
  | .row t xs' :: xs, c => by simp only [forceBlks, forceBlks_eq xs]
  | .dead :: xs, c => by simp only [forceBlks, forceBlks_eq xs]
  | .hole t e xs' i off d :: xs, c => by simp only [forceBlks, forceBlks_eq xs]
theorem forceLD_eq (d : LD) (c : LD → Tree α) : forceLD d c = c d := by
  obtain ⟨s, b, v, x⟩ := d
  simp only [forceLD, forceAgs_eq, forceBlks_eq, forceBs_eq]
end
/-- A variable of the round is made anew: who knew the old one forgets it. -/
def hasN (d : Nat) (x : AV) : Bool := x.names.any (Nat.beq d)
def forgetB (d : Nat) : Option Blk → Option Blk
  | some (.box cs) => bif (AV.names.namesL cs).any (Nat.beq d) then some .dead else some (.box cs)
  | some (.hole _ _ _ _ _ _) => some .dead
  | b => b
def forget (d : Nat) (σ : St) : St := { nt := σ.nt, env := fun k => bif hasN d (σ.env k) then .unk else σ.env k, heap := fun n => bif Nat.beq n d then none else forgetB d (σ.heap n) }
def isBox : Option Blk → Bool
  | some (.box _) => true
  | _ => false
def newBox (o : Oper) : Option Nat :=
  match o.op with
  | .alloc _ => o.dst
  | .box _ _ => o.dst
  | _ => none
def reNew : List Oper → St → St
  | [], σ => σ
  | o :: l, σ => match newBox o with
    | some d => bif isBox (σ.heap d) then reNew l (forget d σ) else reNew l σ
    | none => reNew l σ
section
variable {α : Type} (P : Program) (C : FuncId → Option Ct) (wr : Bool) (L : Nat → Option LAnn)
def exC : Code → St → (Ex → St → Tree α) → Tree α
  | .skip, σ, k => k .normal σ
  | .region _ ops draw, σ, k => exRegion P C wr ops draw (reNew ops.toList σ) (k .normal)
  | .seq a b, σ, k => exC a σ fun e σ' => match e with
    | .normal => exC b σ' k
    | e => k e σ'
  | .cond c t e, σ, k => match opVal σ.env c with
    | .lit true => exC t σ k
    | .lit false => exC e σ k
    | .bool b => .ite b (exC t σ k) (exC e σ k)
    | .guess q => .both q (exC t σ k) (exC e σ k)
    | _ => .stuck 10
  | .block id body, σ, k => exC body σ fun e σ' => match e with
    | .exit i => bif Nat.beq i id then k .normal σ' else k (.exit i) σ'
    | e => k e σ'
  | .exit id, σ, k => k (.exit id) σ
  | .ret, σ, k => k .ret σ
  | .loop body, σ, k => match L (firstId body) with
    | some ann => match dataOf ann (nrmSt ann σ) with
      | some d => forceLD d fun d => match ann.G d with
        | some (p, t) => needs p (t.run fun e v b => forceAgs v fun v => forceBs b fun b => k e (mkHead σ.nt ann ⟨d.same, d.blk, v, b⟩))
        | none => .need (d = d) (.stuck 14)
      | none => .need (σ = σ) (.stuck 13)
    | none => .need (σ = σ) (.stuck 12)
  | _, _, _ => .stuck 11
/-- A round: to its end, or out of the loop, with the data that it leaves. -/
def exRound (nt : Nat) (ann : LAnn) (body : Code) (d : LD) : Tree (Ex × LD) :=
  exC (α := Ex × LD) P C wr L body (mkHead nt ann d) fun e σ => match dataOf ann (nrmSt ann σ) with
    | some d' => forceLD d' fun d' => .leaf (e, d')
    | none => .need (σ = σ) (.stuck 15)
def resAV (σ : St) : ResultVar → Option AV
  | .tmp t => some (σ.env t)
  | .cell t ty => match σ.env t with
    | .ptr nm off => match σ.heap nm with
      | some (.box cs) => partOf P ty cs off
      | _ => none
    | _ => none
def resAVs (σ : St) : List ResultVar → Option (List AV)
  | [] => some []
  | r :: rs => match resAV P σ r, resAVs σ rs with
    | some v, some vs => some (v :: vs)
    | _, _ => none
/-- A result as the caller has it: without names; a row goes along. -/
def outAV (h : Nat → Option Blk) : AV → Option AV
  | .int k n => some (.int k n)
  | .bool b => some (.bool b)
  | .lit b => some (.lit b)
  | .str s => some (.str s)
  | .nilS => some .nilS
  | .row nm => match h nm with
    | some (.row t xs) => some (.own t xs)
    | _ => none
  | .view t xs => some (.view t xs)
  | .empS => some .empS
  | .agg cs => (outL h cs).map .agg
  | .tup cs => (outL h cs).map .tup
  | _ => none
where outL (h : Nat → Option Blk) : List AV → Option (List AV)
  | [] => some []
  | x :: xs => match outAV h x, outL h xs with
    | some v, some vs => some (v :: vs)
    | _, _ => none
/-- A result that gives up all its rows. -/
def frzAV (h : Nat → Option Blk) : AV → Option AV
  | .int k n => some (.int k n)
  | .bool b => some (.bool b)
  | .lit b => some (.lit b)
  | .str s => some (.str s)
  | .nilS => some .nilS
  | .empS => some .empS
  | .view t xs => some (.view t xs)
  | .row nm => match h nm with
    | some (.row t xs) => some (viewOf t xs)
    | _ => none
  | .part sz nm off n => match h nm with
    | some (.row t xs) => bif Nat.beq sz t.size && !t.isDeep then some (.view t ((xs.drop off).take n)) else none
    | _ => none
  | .agg cs => (frzL h cs).map .agg
  | .tup cs => (frzL h cs).map .tup
  | _ => none
where frzL (h : Nat → Option Blk) : List AV → Option (List AV)
  | [] => some []
  | x :: xs => match frzAV h x, frzL h xs with
    | some v, some vs => some (v :: vs)
    | _, _ => none
def one? : List Nat → Bool
  | [] => true
  | [_] => true
  | _ => false
def outAll (fz : Bool) (h : Nat → Option Blk) (vs : List AV) : Option (List AV) :=
  bif fz then frzAV.frzL h vs else bif one? (AV.names.namesL vs) then outAV.outL h vs else none
def exFunc (fn : Func) (args : List AV) (fz : Bool := false) : Tree (List AV) :=
  match fn.body with
  | some c =>
    bif Nat.ble args.length fn.ntmps && Nat.ble fn.ntmps BR then
    exC P C wr L c { nt := fn.ntmps, env := fun k => args.getD k .undef, heap := fun _ => none } fun e σ => match e with
      | .exit _ => .stuck 20
      | _ => match resAVs P σ fn.results.toList with
        | some vs => match outAll fz σ.heap vs with
            | some vs => forceAgs vs fun vs => .leaf vs
            | none => .stuck 21
        | none => .stuck 22
    else .stuck 23
  | none => .stuck 24
end
def ofEx : Ex → Exit
  | .normal => .normal
  | .exit id => .exit id
  | .ret => .ret
/-- A loop answers as its note says: from data that the note takes to the way out and the data there. -/
def LoopSat (P : Program) (nt : Nat) (body : Code) (ann : LAnn) : Prop :=
  ∀ d p t, ann.G d = some (p, t) → p.ok → ∀ (base : Base) (w0 : World) (R : Exit → Act → World → Prop) (a : Act) (w : World), Good base w0 → Rep base w0 (mkHead nt ann d) a w →
    (∀ a' w', Rep base w0 (mkHead nt ann ⟨d.same, d.blk, t.val.2.1, t.val.2.2⟩) a' w' → R (ofEx t.val.1) a' w') → (Code.loop body).wp P R a w
def LoopsOk (P : Program) (L : Nat → Option LAnn) (nt : Nat) (c : Code) : Prop := ∀ b ∈ loopsOf c, ∀ ann, L (firstId b) = some ann → LoopSat P nt b ann
section
variable {α : Type} {P : Program} {C : FuncId → Option Ct} {wr : Bool} {L : Nat → Option LAnn} {Q : α → Prop} {base : Base} {w0 : World}
theorem exOps_nt : True := trivial
theorem rep_nt {σ : St} {a : Act} {w : World} (h : Rep base w0 σ a w) : a.tmps.size = σ.nt := by
  obtain ⟨_, _, _, _, h⟩ := h
  exact h.size
theorem region_any {id : Nat} {ops : Array Oper} {draw : Bool} {σ : St} {a : Act} {w : World} {R : Exit → Act → World → Prop} {k : St → Tree α} (hm : P.follows .mixedOrders = true) (hC : CG P C base w0) (hok : (exRegion P C wr ops draw σ k).ok Q) (h : Rep base w0 σ a w)
    (hR : ∀ σ' a' w', σ'.nt = σ.nt → (k σ').ok Q → Rep base w0 σ' a' w' → R .normal a' w') : (Code.region id ops draw).wp P R a w := by
  cases draw
  · exact region_plain hC hok h hR
  · exact region_drawn hm hC hok h hR
mutual
theorem Den.keep {c c' : Cx} (hok : ∀ b, c.ok b → c'.ok b) (hc : ∀ b o, c.ok b → c'.w.cell? ⟨b, o, none⟩ = c.w.cell? ⟨b, o, none⟩) : ∀ {x : AV} {v : Value}, (∀ n ∈ x.names, c.dom n → c'.dom n ∧ c'.ref n = c.ref n) → Den c x v → Den c' x v
  | .int _ _, _, _, h => h
  | .bool _, _, _, h => h
  | .lit _, _, _, h => h
  | .str _, _, _, h => h
  | .undef, _, _, h => h
  | .unk, _, _, h => h
  | .fn _, _, _, h => h
  | .nilS, _, _, h => h
  | .empS, _, _, h => h
  | .guess _, _, _, h => h
  | .ptr nm _, _, hn, h => by
    obtain ⟨h1, b, h2, h3⟩ := h
    have k := hn nm (by simp [AV.names]) h1
    exact ⟨k.1, b, k.2.trans h2, h3⟩
  | .elt _ nm _ _, _, hn, h => by
    obtain ⟨h1, b, o, n, cap, h2, h3⟩ := h
    have k := hn nm (by simp [AV.names]) h1
    exact ⟨k.1, b, o, n, cap, (congrArg headV k.2).trans h2, h3⟩
  | .inr _ _, _, hn, h => by
    obtain ⟨h1, s, ins, a, n, cap, h2, h3⟩ := h
    have k := hn 700000 (by simp [AV.names]) h1
    exact ⟨k.1, s, ins, a, n, cap, k.2.trans h2, h3⟩
  | .part _ nm _ _, _, hn, h => by
    simp only [Den] at h ⊢
    have k := hn nm (by simp [AV.names]) h.1
    rw [k.2]
    exact ⟨k.1, h.2⟩
  | .row nm, _, hn, h => by
    obtain ⟨h1, h2, h3⟩ := h
    have k := hn nm (by simp [AV.names]) h1
    exact ⟨k.1, h2.trans (congrArg headV k.2.symm), h3⟩
  | .velt t x off, _, _, h => by
    obtain ⟨b, o, us, h1, h2, h3, h4⟩ := h
    exact ⟨b, o, us, h1, hok _ h2, h3.mono hok hc, fun j hj => (hc _ _ h2).trans (h4 j hj)⟩
  | .view t xs, _, _, h => Reads.mono hok hc h
  | .own t xs, _, _, h => Reads.mono hok hc h
  | .clo f cs, _, hn, h => by
    obtain ⟨vs, h1, h2⟩ := h
    exact ⟨vs, h1, DenL.keep hok hc hn h2⟩
  | .agg cs, _, hn, h => by
    obtain ⟨vs, h1, h2⟩ := h
    exact ⟨vs, h1, DenL.keep hok hc hn h2⟩
  | .tup cs, _, hn, h => by
    obtain ⟨vs, h1, h2⟩ := h
    exact ⟨vs, h1, DenL.keep hok hc hn h2⟩
theorem DenL.keep {c c' : Cx} (hok : ∀ b, c.ok b → c'.ok b) (hc : ∀ b o, c.ok b → c'.w.cell? ⟨b, o, none⟩ = c.w.cell? ⟨b, o, none⟩) : ∀ {xs : List AV} {vs : List Value}, (∀ n ∈ AV.names.namesL xs, c.dom n → c'.dom n ∧ c'.ref n = c.ref n) → DenL c xs vs → DenL c' xs vs
  | [], _, _, h => h
  | x :: xs, _, hn, h => by
    simp only [AV.names.namesL, List.mem_append] at hn
    obtain ⟨v, vs', rfl, h1, h2⟩ := h
    exact ⟨v, vs', rfl, Den.keep hok hc (fun n hx => hn n (.inl hx)) h1, DenL.keep hok hc (fun n hx => hn n (.inr hx)) h2⟩
end
theorem forget_heap {d n : Nat} {σ : St} {B' : Blk} (h : (forget d σ).heap n = some B') : n ≠ d ∧ ((σ.heap n = some B' ∧ (∀ cs, B' = .box cs → d ∉ AV.names.namesL cs) ∧ ∀ t e xs i off d', B' ≠ .hole t e xs i off d') ∨ (B' = .dead ∧ σ.heap n ≠ none)) := by
  simp only [forget] at h
  cases hd : Nat.beq n d with
  | true => rw [hd] at h; simp at h
  | false =>
    rw [hd, cond_false] at h
    refine ⟨fun e => by subst e; simp at hd, ?_⟩
    unfold forgetB at h
    split at h
    · rename_i cs hx
      cases hb : (AV.names.namesL cs).any (Nat.beq d) with
      | true => rw [hb, cond_true] at h; exact .inr ⟨(Option.some.inj h).symm, by rw [hx]; simp⟩
      | false =>
        rw [hb, cond_false] at h
        refine .inl ⟨hx.trans h, fun cs' e => ?_, fun t e xs i off d' e2 => by rw [e2] at h; simp at h⟩
        have := Option.some.inj h
        rw [e] at this
        cases this
        intro hm
        have := List.any_eq_false.1 hb d hm
        simp at this
    · rename_i hx
      exact .inr ⟨(Option.some.inj h).symm, by rw [hx]; simp⟩
    · rename_i hx hx2
      exact .inl ⟨h, fun cs' e => absurd (by rw [h, e]) (hx cs'), fun t e xs i off d' e2 => absurd (by rw [h, e2]) (hx2 t e xs i off d')⟩
theorem forget_some {d n : Nat} {σ : St} (h : σ.heap n ≠ none) (hn : n ≠ d) : (forget d σ).heap n ≠ none := by
  simp only [forget]
  have e : Nat.beq n d = false := by
    cases hb : Nat.beq n d with
    | false => rfl
    | true => exact absurd (Nat.eq_of_beq_eq_true hb) hn
  rw [e, cond_false]
  unfold forgetB
  split
  · rename_i cs _
    cases (AV.names.namesL cs).any (Nat.beq d) <;> simp
  · simp
  · exact h
theorem Rep.forget {σ : St} {a : Act} {w : World} (d : Nat) (h : Rep base w0 σ a w) : Rep base w0 (Sx.forget d σ) a w := by
  obtain ⟨g1, g2, g3, ref, g⟩ := h
  have keyL : ∀ n B', (Sx.forget d σ).heap n = some B' → B'.live = true → σ.heap n = some B' := fun n B' hB hl => by
    rcases (forget_heap hB).2 with ⟨k, _⟩ | ⟨rfl, _⟩
    · exact k
    · simp [Blk.live] at hl
  have hok : ∀ b, (cxOf base σ w ref).ok b → (cxOf base (Sx.forget d σ) w ref).ok b := fun b hb => ⟨hb.1, hb.2.1, fun n B' hB' hl => hb.2.2 n B' (keyL n B' hB' hl) hl⟩
  have hdom : ∀ n, n ≠ d → (cxOf base σ w ref).dom n → (cxOf base (Sx.forget d σ) w ref).dom n ∧ (cxOf base (Sx.forget d σ) w ref).ref n = (cxOf base σ w ref).ref n := fun n hn ⟨B, hB⟩ => by
    have := forget_some (d := d) (σ := σ) (n := n) (by rw [hB]; simp) hn
    cases hx : (Sx.forget d σ).heap n with
    | none => exact absurd hx this
    | some B' => exact ⟨⟨B', hx⟩, rfl⟩
  refine ⟨g1, g2, g3, ref, g.size, fun k => ?_, fun n B' hB' => ?_, fun n m B B' b hB hl hB' hl' e1 e2 => ?_, g.le, fun u hu hx => g.lent u hu fun hy => ?_⟩
  · show Den _ (bif hasN d (σ.env k) then .unk else σ.env k) _
    cases hh : hasN d (σ.env k) with
    | true => exact trivial
    | false =>
      refine Den.keep hok (fun _ _ _ => rfl) (fun n hn => hdom n fun e => ?_) (g.env k)
      subst e
      have := List.any_eq_false.1 hh n hn
      simp at this
  · rcases (forget_heap hB').2 with ⟨k1, k2⟩ | ⟨rfl, _⟩
    · have hd := g.blk n B' k1
      cases B' with
      | dead => trivial
      | box cs =>
        obtain ⟨b, vs, ty, q1, q2, q3, q4⟩ := hd
        exact ⟨b, vs, ty, q1, q2, q3, DenL.keep hok (fun _ _ _ => rfl) (fun m hm => hdom m fun e => k2.1 cs rfl (e ▸ hm)) q4⟩
      | row t xs =>
        exact RowDen.go hd (fun _ _ hbo => hbo) (fun _ _ => rfl) (fun _ _ q3 => q3.mono hok (fun _ _ _ => rfl))
      | hole t e xs i off d' => exact absurd rfl (k2.2 t e xs i off d')
    · trivial
  · exact g.inj n m B B' b (keyL n B hB hl) hl (keyL m B' hB' hl') hl' e1 e2
  · cases hx' : (Sx.forget d σ).heap BR with
    | none => exact hx hx'
    | some B' =>
      rcases (forget_heap hx').2 with ⟨k, _⟩ | ⟨_, k⟩
      · rw [hy] at k; simp at k
      · exact k hy
theorem Rep.reNew : ∀ (l : List Oper) {σ : St} {a : Act} {w : World}, Rep base w0 σ a w → Rep base w0 (Sx.reNew l σ) a w
  | [], _, _, _, h => h
  | o :: l, σ, _, _, h => by
    unfold Sx.reNew
    split
    · rename_i d _
      cases isBox (σ.heap d)
      · exact Rep.reNew l h
      · exact Rep.reNew l (h.forget d)
    · exact Rep.reNew l h
theorem reNew_nt : ∀ (l : List Oper) (σ : St), (reNew l σ).nt = σ.nt
  | [], _ => rfl
  | o :: l, σ => by
    unfold reNew
    split
    · rename_i d _
      cases isBox (σ.heap d)
      · exact reNew_nt l σ
      · exact (reNew_nt l (forget d σ)).trans rfl
    · exact reNew_nt l σ
theorem exC_sound (hm : P.follows .mixedOrders = true) (hC : CG P C base w0) {nt : Nat} : ∀ (c : Code) (σ : St) (k : Ex → St → Tree α) (R : Exit → Act → World → Prop) (a : Act) (w : World), LoopsOk P L nt c → σ.nt = nt →
    (exC P C wr L c σ k).ok Q → Rep base w0 σ a w → (∀ e σ' a' w', σ'.nt = nt → (k e σ').ok Q → Rep base w0 σ' a' w' → R (ofEx e) a' w') → c.wp P R a w
  | .skip, σ, k, R, a, w, _, hn, h, hr, hR => wp_skip (hR .normal σ a w hn h hr)
  | .region id ops draw, σ, k, R, a, w, _, hn, h, hr, hR => region_any hm hC h (hr.reNew ops.toList) fun σ' a' w' h0 h1 h2 => hR .normal σ' a' w' (h0.trans ((reNew_nt _ _).trans hn)) h1 h2
  | .seq x y, σ, k, R, a, w, hL, hn, h, hr, hR => by
    refine wp_seq (exC_sound hm hC x σ _ _ a w (fun b hb => hL b (by simp [loopsOf, hb])) hn h hr fun e σ' a' w' h0 h1 h2 => ?_)
    cases e with
    | normal => exact exC_sound hm hC y σ' k R a' w' (fun b hb => hL b (by simp [loopsOf, hb])) h0 h1 h2 hR
    | exit id => exact hR (.exit id) σ' a' w' h0 h1 h2
    | ret => exact hR .ret σ' a' w' h0 h1 h2
  | .cond c x y, σ, k, R, a, w, hL, hn, h, hr, hR => by
    obtain ⟨h1, h2, h3, ref, hrep⟩ := id hr
    have hd := hrep.den c
    have hx : LoopsOk P L nt x := fun b hb => hL b (by simp [loopsOf, hb])
    have hy : LoopsOk P L nt y := fun b hb => hL b (by simp [loopsOf, hb])
    simp only [exC] at h
    split at h
    · rename_i hv
      rw [hv] at hd
      exact wp_cond_true hd (exC_sound hm hC x σ k R a w hx hn h hr hR)
    · rename_i hv
      rw [hv] at hd
      exact wp_cond_false hd (exC_sound hm hC y σ k R a w hy hn h hr hR)
    · rename_i b hv
      rw [hv] at hd
      exact wp_cond_split hd (fun hb => exC_sound hm hC x σ k R a w hx hn (h.1 hb) hr hR) (fun hb => exC_sound hm hC y σ k R a w hy hn (h.2 hb) hr hR)
    · rename_i q hv
      rw [hv] at hd
      obtain ⟨b, hd, hb⟩ := hd
      cases b with
      | true => exact wp_cond_true hd (exC_sound hm hC x σ k R a w hx hn (h.1 (hb rfl)) hr hR)
      | false => exact wp_cond_false hd (exC_sound hm hC y σ k R a w hy hn h.2 hr hR)
    · exact h.elim
  | .block id body, σ, k, R, a, w, hL, hn, h, hr, hR => by
    refine wp_block (exC_sound hm hC body σ _ _ a w hL hn h hr fun e σ' a' w' h0 h1 h2 => ?_)
    cases e with
    | normal => exact hR .normal σ' a' w' h0 h1 h2
    | ret => exact hR .ret σ' a' w' h0 h1 h2
    | exit i =>
      simp only [ofEx, Exit.inBlock]
      by_cases hi : i = id
      · subst hi
        simp only [Nat.beq_refl, cond_true] at h1
        simp only [if_true]
        exact hR .normal σ' a' w' h0 h1 h2
      · simp only [nbeq_ne hi, cond_false] at h1
        simp only [hi, if_false]
        exact hR (.exit i) σ' a' w' h0 h1 h2
  | .exit id, σ, k, R, a, w, _, hn, h, hr, hR => wp_exit (hR (.exit id) σ a w hn h hr)
  | .ret, σ, k, R, a, w, _, hn, h, hr, hR => wp_ret (hR .ret σ a w hn h hr)
  | .loop body, σ, k, R, a, w, hL, hn, h, hr, hR => by
    simp only [exC] at h
    split at h
    · rename_i ann hann
      split at h
      · rename_i d hd
        rw [forceLD_eq] at h
        split at h
        · rename_i p t hG
          obtain ⟨hp, h⟩ := needs_ok h
          have h := LTree.run_ok h
          rw [forceAgs_eq, forceBs_eq] at h
          obtain ⟨ren, hsub⟩ := dataOf_sub hd
          have hr' := hsub.rep (hr.nrm ann)
          have hn0 := hn
          have hn : (nrmSt ann σ).nt = nt := (nrmSt_nt ann σ).trans hn
          rw [hn] at hr'
          rw [show σ.nt = nt from hn0] at h
          exact hL body (by simp [loopsOf]) ann hann d p t hG hp base w0 R a w hC.2 hr' fun a' w' h' => hR _ _ a' w' rfl h h'
        · exact h.2.elim
      · exact h.2.elim
    · exact h.2.elim
  | .rangeFunc _ _ _ _, _, _, _, _, _, _, _, h, _, _ => h.elim
  | .scope _, _, _, _, _, _, _, _, h, _, _ => h.elim
  | .label _, _, _, _, _, _, _, _, h, _, _ => h.elim
  | .goto _, _, _, _, _, _, _, _, h, _, _ => h.elim
  | .refuse _, _, _, _, _, _, _, _, h, _, _ => h.elim
/-- At the way out: values that are as said, or left open; a row of one's own may be given up (`.guess`). -/
def AV.noRow : AV → Prop
  | .own _ _ => False
  | .guess _ => False
  | _ => True
def AV.isRow : AV → Prop
  | .own _ _ => True
  | .guess _ => True
  | .unk => True
  | _ => False
def weakL : List AV → List AV → Prop
  | [], [] => True
  | x :: xs, .unk :: ys => x.noRow ∧ weakL xs ys
  | x :: xs, .guess _ :: ys => x.isRow ∧ weakL xs ys
  | x :: xs, y :: ys => x = y ∧ weakL xs ys
  | _, _ => False
theorem weakL_cons {x y : AV} {xs ys : List AV} (h : weakL (x :: xs) (y :: ys)) : (x = y ∨ (y = .unk ∧ x.noRow) ∨ ∃ q, y = .guess q ∧ x.isRow) ∧ weakL xs ys := by
  cases y <;> first | exact ⟨.inr (.inl ⟨rfl, h.1⟩), h.2⟩ | exact ⟨.inr (.inr ⟨_, rfl, h.1⟩), h.2⟩ | exact ⟨.inl h.1, h.2⟩
theorem weakL_env : ∀ {xs ys : List AV} {ks : List Nat} {n k : Nat} {z : AV}, weakL xs ys → lookE ks (unVs n ys) k z = .unk ∨ lookE ks (unVs n ys) k z = lookE ks (unVs n xs) k z
  | [], [], _, _, _, _, _ => .inr rfl
  | _ :: _, _ :: _, [], _, _, _, _ => .inr rfl
  | x :: xs, y :: ys, k0 :: ks, n, k, z, h => by
    obtain ⟨h1, h2⟩ := weakL_cons h
    simp only [unVs, lookE]
    cases Nat.beq k k0 with
    | false => exact weakL_env h2
    | true =>
      rcases h1 with rfl | ⟨rfl, _⟩ | ⟨q, rfl, _⟩
      · exact .inr rfl
      · exact .inl rfl
      · exact .inl rfl
  | [], _ :: _, _, _, _, _, h => h.elim
  | _ :: _, [], _, _, _, _, h => by simp [weakL] at h
theorem Rep.weak {σ σ' : St} {a : Act} {w : World} (h : Rep base w0 σ a w) (h1 : σ'.nt = σ.nt) (h2 : ∀ k, σ'.env k = .unk ∨ σ'.env k = σ.env k) (h3 : σ'.heap = σ.heap) : Rep base w0 σ' a w := by
  obtain ⟨nt, env, heap⟩ := σ'
  obtain ⟨g1, g2, g3, ref, g⟩ := h
  simp only at h1 h2 h3
  subst h3
  refine ⟨g1, g2, g3, ref, by rw [g.size, h1], fun k => ?_, g.blk, g.inj, by show nt ≤ BR; rw [h1]; exact g.le, g.lent⟩
  rcases h2 k with h2 | h2
  · simp only [h2]; trivial
  · simp only [h2]; exact g.env k
/-! boxes at the way out: their cells as said, or left open -/
inductive weakC : List AV → List AV → Prop where
  | nil : weakC [] []
  | cons {x y : AV} {xs ys : List AV} (h : y = .unk ∨ y = x) (t : weakC xs ys) : weakC (x :: xs) (y :: ys)
def weakB (xs ys : List AV) : Prop := xs = ys ∨ (rowEntry xs = none ∧ rowEntry ys = none ∧ weakL xs ys)
def weakBs : List (List AV) → List (List AV) → Prop
  | [], [] => True
  | x :: xs, y :: ys => weakB x y ∧ weakBs xs ys
  | _, _ => False
theorem weakBs_refl : ∀ xs : List (List AV), weakBs xs xs
  | [] => trivial
  | _ :: xs => ⟨.inl rfl, weakBs_refl xs⟩
theorem weakC_refl : ∀ cs : List AV, weakC cs cs
  | [] => .nil
  | _ :: cs => .cons (.inr rfl) (weakC_refl cs)
theorem weakC_unVs : ∀ {xs ys : List AV} {n : Nat}, weakL xs ys → weakC (unVs n xs) (unVs n ys)
  | [], [], _, _ => .nil
  | x :: xs, y :: ys, n, h => by
    obtain ⟨h1, h2⟩ := weakL_cons h
    refine .cons ?_ (weakC_unVs h2)
    rcases h1 with rfl | ⟨rfl, _⟩ | ⟨q, rfl, _⟩
    · exact .inr rfl
    · exact .inl rfl
    · exact .inl rfl
  | [], _ :: _, _, h => h.elim
  | _ :: _, [], _, h => by simp [weakL] at h
theorem DenL.weakC {c : Cx} : ∀ {cs cs' : List AV} {vs : List Value}, Sx.weakC cs cs' → DenL c cs vs → DenL c cs' vs
  | _, _, _, .nil, h => h
  | _, _, _, .cons h1 h2, h => by
    obtain ⟨v, vs', rfl, g1, g2⟩ := h
    refine ⟨v, vs', rfl, ?_, DenL.weakC h2 g2⟩
    rcases h1 with rfl | rfl
    · trivial
    · exact g1
inductive relH : List (Nat × Blk) → List (Nat × Blk) → Prop where
  | nil : relH [] []
  | cons {p q : Nat × Blk} {l l' : List (Nat × Blk)} (h : q.1 = p.1 ∧ (q.2 = p.2 ∨ (∃ cs cs', p.2 = .box cs ∧ q.2 = .box cs' ∧ weakC cs cs') ∨ q.2 = .dead)) (t : relH l l') : relH (p :: l) (q :: l')
  | ins {q : Nat × Blk} {l l' : List (Nat × Blk)} (h : q.2 = .dead ∧ q.1 ≠ BR) (t : relH l l') : relH l (q :: l')
theorem weakL_refl : ∀ xs : List AV, weakL xs xs
  | [] => trivial
  | x :: xs => by cases x <;> first | exact ⟨rfl, weakL_refl xs⟩ | exact ⟨trivial, weakL_refl xs⟩
theorem relH_refl : ∀ l : List (Nat × Blk), relH l l
  | [] => .nil
  | _ :: l => .cons ⟨rfl, .inl rfl⟩ (relH_refl l)
theorem relH_append {l l' m m' : List (Nat × Blk)} (h : relH l l') (hm : relH m m') : relH (l ++ m) (l' ++ m') := by
  induction h with
  | nil => exact hm
  | cons h1 _ ih => exact .cons h1 ih
  | ins h1 _ ih => exact .ins h1 ih
theorem relH_unRs : ∀ {xs ys : List AV} {n : Nat}, BR < n → weakL xs ys → relH (unRs n xs) (unRs n ys)
  | [], [], _, _, _ => .nil
  | x :: xs, y :: ys, n, hn, h => by
    obtain ⟨h1, h2⟩ := weakL_cons h
    have ih := relH_unRs (n := n + 1) (by omega) h2
    simp only [unRs]
    rcases h1 with rfl | ⟨rfl, h1⟩ | ⟨q, rfl, h1⟩
    · exact relH_append (relH_refl _) ih
    · have e : unR n x = [] := by cases x <;> first | rfl | exact h1.elim
      rw [e]; exact ih
    · cases x <;> first | exact h1.elim | exact .cons ⟨rfl, .inr (.inr rfl)⟩ ih | exact .ins ⟨rfl, by show n ≠ BR; omega⟩ ih
  | [], _ :: _, _, _, h => h.elim
  | _ :: _, [], _, _, h => by simp [weakL] at h
theorem relH_unBs : ∀ {hs : List Nat} {xs ys : List (List AV)} {n : Nat}, BR < n → weakBs xs ys → relH (unBs n hs xs) (unBs n hs ys)
  | [], [], [], _, _, _ => .nil
  | [], _ :: _, _ :: _, _, _, _ => .nil
  | _ :: _, [], [], _, _, _ => .nil
  | h :: hs, x :: xs, y :: ys, n, hn, hw => by
    obtain ⟨h1, h2⟩ := hw
    have ih := relH_unBs (hs := hs) (n := n + 100) (by omega) h2
    rcases h1 with rfl | ⟨h3, h4, h5⟩
    · simp only [unBs]
      split
      · exact .cons ⟨rfl, .inl rfl⟩ ih
      · exact .cons ⟨rfl, .inl rfl⟩ (relH_append (relH_refl _) ih)
    · simp only [unBs, h3, h4]
      exact .cons ⟨rfl, .inr (.inl ⟨_, _, rfl, rfl, weakC_unVs h5⟩)⟩ (relH_append (relH_unRs hn h5) ih)
  | _, [], _ :: _, _, _, h => h.elim
  | _, _ :: _, [], _, _, h => by simp [weakBs] at h
theorem relH_look {l l' : List (Nat × Blk)} (h : relH l l') (n : Nat) : lookH l' n = lookH l n ∨ (∃ cs cs', lookH l n = some (.box cs) ∧ lookH l' n = some (.box cs') ∧ weakC cs cs') ∨ ((lookH l n ≠ none ∨ n ≠ BR) ∧ lookH l' n = some .dead) := by
  induction h with
  | nil => exact .inl rfl
  | @cons p q l l' h1 _ ih =>
    obtain ⟨m, b⟩ := p
    obtain ⟨m', b'⟩ := q
    obtain ⟨rfl, h1⟩ := h1
    simp only [lookH]
    cases Nat.beq n m' with
    | false => exact ih
    | true =>
      rcases h1 with h1 | ⟨cs, cs', g1, g2, g3⟩ | h1
      · simp only at h1; subst h1; exact .inl rfl
      · simp only at g1 g2; subst g1 g2; exact .inr (.inl ⟨cs, cs', rfl, rfl, g3⟩)
      · simp only at h1; subst h1; exact .inr (.inr ⟨.inl (by simp), rfl⟩)
  | @ins q l l' h1 _ ih =>
    obtain ⟨m', b'⟩ := q
    obtain ⟨h2, h3⟩ := h1
    simp only at h2 h3
    subst h2
    simp only [lookH]
    by_cases he : n = m'
    · subst he; exact .inr (.inr ⟨.inr h3, by simp⟩)
    · rw [nbeq_ne he]; exact ih
theorem Rep.weakBox {σ σ' : St} {a : Act} {w : World} (h : Rep base w0 σ a w) (h1 : σ'.nt = σ.nt) (h2 : σ'.env = σ.env) (h3 : ∀ n, σ'.heap n = σ.heap n ∨ (∃ cs cs', σ.heap n = some (.box cs) ∧ σ'.heap n = some (.box cs') ∧ weakC cs cs') ∨ ((σ.heap n ≠ none ∨ n ≠ BR) ∧ σ'.heap n = some .dead)) : Rep base w0 σ' a w := by
  obtain ⟨g1, g2, g3, ref, g⟩ := h
  have key : ∀ n B', σ'.heap n = some B' → (B' = .dead ∧ (σ.heap n ≠ none ∨ n ≠ BR)) ∨ ∃ B, σ.heap n = some B ∧ B.live = B'.live ∧ (B' = B ∨ ∃ cs cs', B = .box cs ∧ B' = .box cs' ∧ weakC cs cs') := fun n B' hB => by
    rcases h3 n with h | ⟨cs, cs', k1, k2, k3⟩ | ⟨k1, k2⟩
    · exact .inr ⟨B', by rw [← h]; exact hB, rfl, .inl rfl⟩
    · rw [k2] at hB
      simp only [Option.some.injEq] at hB
      subst hB
      exact .inr ⟨.box cs, k1, rfl, .inr ⟨cs, cs', rfl, rfl, k3⟩⟩
    · rw [k2] at hB
      simp only [Option.some.injEq] at hB
      exact .inl ⟨hB.symm, k1⟩
  have keyL : ∀ n B', σ'.heap n = some B' → B'.live = true → ∃ B, σ.heap n = some B ∧ B.live = true := fun n B' hB hl => by
    rcases key n B' hB with ⟨rfl, _⟩ | ⟨B, k1, k2, _⟩
    · simp [Blk.live] at hl
    · exact ⟨B, k1, k2.trans hl⟩
  have key' : ∀ n, σ.heap n ≠ none → σ'.heap n ≠ none := fun n hn => by
    rcases h3 n with h | ⟨cs, cs', k1, k2, k3⟩ | ⟨_, k2⟩
    · rw [h]; exact hn
    · rw [k2]; simp
    · rw [k2]; simp
  have hle : (cxOf base σ w ref).le (cxOf base σ' w ref) := by
    refine ⟨fun n ⟨B, hB⟩ => ?_, fun _ _ => rfl, fun b hb => ⟨hb.1, hb.2.1, fun n B' hB' hl => ?_⟩, fun _ _ _ => rfl⟩
    · have := key' n (by rw [hB]; simp)
      cases hx : σ'.heap n with
      | none => exact absurd hx this
      | some B' => exact ⟨B', hx⟩
    · obtain ⟨B, k1, k2⟩ := keyL n B' hB' hl
      exact hb.2.2 n B k1 k2
  refine ⟨g1, g2, g3, ref, by rw [g.size, h1], fun k => by rw [h2]; exact (g.env k).mono hle, fun n B' hB' => ?_, fun n m B B' b hB hl hB' hl' e1 e2 => ?_, by rw [h1]; exact g.le, fun u hu hx => g.lent u hu fun hy => ?_⟩
  · rcases key n B' hB' with ⟨rfl, _⟩ | ⟨B, k1, _, k3⟩
    · trivial
    have hd := BlkDen.mono hle (fun _ _ => rfl) (g.blk n B k1)
    rcases k3 with rfl | ⟨cs, cs', rfl, rfl, k4⟩
    · exact hd
    · obtain ⟨b, vs, ty, q1, q2, q3, q4⟩ := hd
      exact ⟨b, vs, ty, q1, q2, q3, q4.weakC k4⟩
  · obtain ⟨C, k1, k2⟩ := keyL n B hB hl
    obtain ⟨C', k1', k2'⟩ := keyL m B' hB' hl'
    exact g.inj n m C C' b k1 k2 k1' k2' e1 e2
  · cases hx' : σ'.heap BR with
    | none => exact hx hx'
    | some B' =>
      rcases key BR B' hx' with ⟨_, hk | hk⟩ | ⟨B, k1, _⟩
      · exact hk hy
      · exact hk rfl
      · rw [hy] at k1
        simp at k1
theorem weak_head {nt : Nat} {ann : LAnn} {d : LD} {vs : List AV} {a : Act} {w : World} (hb : BR < ann.base) (hw : weakL d.vals vs) (h : Rep base w0 (mkHead nt ann d) a w) : Rep base w0 (mkHead nt ann ⟨d.same, d.blk, vs, d.boxes⟩) a w := by
  refine Rep.weakBox (σ := { nt := nt, env := (mkHead nt ann ⟨d.same, d.blk, vs, d.boxes⟩).env, heap := (mkHead nt ann d).heap }) (h.weak rfl (fun k => ?_) rfl) rfl rfl fun n => ?_
  · have := @weakL_env d.vals vs ann.modS ann.base k .unk hw
    simp only [mkHead]
    rcases lookE_const ann.sameS d.same k with ⟨v, hv⟩ | hv
    · exact .inr (by rw [hv, hv])
    · rw [hv, hv]; exact this
  · exact relH_look (relH_append (relH_refl _) (relH_append (relH_unRs hb hw) (relH_refl _))) n
theorem weak_boxes {nt : Nat} {ann : LAnn} {d : LD} {bs : List (List AV)} {a : Act} {w : World} (hb : BR < ann.base) (hw : weakBs d.boxes bs) (h : Rep base w0 (mkHead nt ann d) a w) : Rep base w0 (mkHead nt ann ⟨d.same, d.blk, d.vals, bs⟩) a w := by
  refine h.weakBox rfl rfl fun n => ?_
  exact relH_look (relH_append (relH_refl _) (relH_append (relH_refl _) (relH_unBs (by omega) hw))) n
/-- A loop, by its round and a measure. -/
theorem loopSat_of {nt : Nat} {body : Code} {ann : LAnn} (hm : P.follows .mixedOrders = true) (hC : ∀ f ct, C f = some ct → Sat P f ct) (hL : LoopsOk P L nt body) (μ : LD → Nat)
    (h : ∀ d p t, ann.G d = some (p, t) → p.ok → (exRound P C wr L nt ann body d).ok fun (e, d') => d'.same = d.same ∧ d'.blk = d.blk ∧
      match e with
      | .normal => μ d' < μ d ∧ ∃ p' t', ann.G d' = some (p', t') ∧ p'.ok ∧ t'.val = t.val
      | e => t.val.1 = e ∧ weakL d'.vals t.val.2.1 ∧ weakBs d'.boxes t.val.2.2) : LoopSat P nt body ann := by
  intro d p t hG hp base w0 R a w hgood hr hR
  refine wp_loop_ghost (fun n a w => ∃ d' p' t', μ d' = n ∧ ann.G d' = some (p', t') ∧ p'.ok ∧ Rep base w0 (mkHead nt ann d') a w ∧ d'.same = d.same ∧ d'.blk = d.blk ∧ t'.val = t.val) (μ d) ⟨d, p, t, rfl, hG, hp, hr, rfl, rfl, rfl⟩ ?_
  rintro n a w ⟨d', p', t', rfl, hG', hp', hr', e1, e2, e3⟩
  refine exC_sound hm ⟨hC, hgood⟩ body (mkHead nt ann d') _ _ a w hL rfl (h d' p' t' hG' hp') hr' fun e σ' a' w' hn h1 h2 => ?_
  split at h1
  · rename_i d'' hd''
    rw [forceLD_eq] at h1
    obtain ⟨ren, hsub⟩ := dataOf_sub hd''
    have hr'' := hsub.rep (h2.nrm ann)
    rw [show (nrmSt ann σ').nt = nt from (nrmSt_nt ann σ').trans hn] at hr''
    obtain ⟨g1, g2, g3⟩ := h1
    cases e with
    | normal =>
      obtain ⟨g3, p'', t'', g4, g5, g6⟩ := g3
      exact ⟨_, g3, d'', p'', t'', rfl, g4, g5, hr'', g1.trans e1, g2.trans e2, g6.trans e3⟩
    | exit id =>
      obtain ⟨k1, k2, k3⟩ := g3
      have hR := hR a' w'
      rw [← e3, k1, ← e1, ← e2, ← g1, ← g2] at hR
      exact hR (weak_boxes (d := ⟨d''.same, d''.blk, t'.val.2.1, d''.boxes⟩) (dataOf_base hd'') k3 (weak_head (dataOf_base hd'') k2 hr''))
    | ret =>
      obtain ⟨k1, k2, k3⟩ := g3
      have hR := hR a' w'
      rw [← e3, k1, ← e1, ← e2, ← g1, ← g2] at hR
      exact hR (weak_boxes (d := ⟨d''.same, d''.blk, t'.val.2.1, d''.boxes⟩) (dataOf_base hd'') k3 (weak_head (dataOf_base hd'') k2 hr''))
  · exact h1.2.elim
def rowAt (h : Nat → Option Blk) (nm : Nat) : OwnD :=
  match h nm with
  | some (.row t xs) => ⟨t, xs⟩
  | _ => ⟨.bool, []⟩
mutual
theorem Den.out {c c' : Cx} {h : Nat → Option Blk} {u : Value} (hu : c'.ref 0 = u) (hok : ∀ b, c.ok b → c'.ok b) (hw : c'.w = c.w) : ∀ {x v : AV} {r : Value}, outAV h x = some v → (∀ m ∈ x.names, c.ref m = u ∧ c'.dom 0) → Den c x r → Den c' (rowed 0 v) r
  | .int _ _, _, _, ho, _, hd => by simp only [outAV, Option.some.injEq] at ho; subst ho; exact hd
  | .bool _, _, _, ho, _, hd => by simp only [outAV, Option.some.injEq] at ho; subst ho; exact hd
  | .lit _, _, _, ho, _, hd => by simp only [outAV, Option.some.injEq] at ho; subst ho; exact hd
  | .str _, _, _, ho, _, hd => by simp only [outAV, Option.some.injEq] at ho; subst ho; exact hd
  | .nilS, _, _, ho, _, hd => by simp only [outAV, Option.some.injEq] at ho; subst ho; exact hd
  | .row nm, _, _, ho, hm, hd => by
    simp only [outAV] at ho
    split at ho
    · rename_i t xs hnm
      simp only [Option.some.injEq] at ho
      subst ho
      obtain ⟨h1, h2⟩ := hm nm (by simp [AV.names])
      exact ⟨h2, by rw [hu, ← h1]; exact hd.2.1, hd.2.2⟩
    · simp at ho
  | .agg cs, _, _, ho, hm, hd => by
    simp only [outAV, Option.map_eq_some_iff] at ho
    obtain ⟨vs, ho, rfl⟩ := ho
    obtain ⟨rs, h1, h2⟩ := hd
    exact ⟨rs, h1, DenL.out hu hok hw ho hm h2⟩
  | .tup cs, _, _, ho, hm, hd => by
    simp only [outAV, Option.map_eq_some_iff] at ho
    obtain ⟨vs, ho, rfl⟩ := ho
    obtain ⟨rs, h1, h2⟩ := hd
    exact ⟨rs, h1, DenL.out hu hok hw ho hm h2⟩
  | .undef, _, _, ho, _, _ => by simp [outAV] at ho
  | .unk, _, _, ho, _, _ => by simp [outAV] at ho
  | .fn _, _, _, ho, _, _ => by simp [outAV] at ho
  | .ptr _ _, _, _, ho, _, _ => by simp [outAV] at ho
  | .elt _ _ _ _, _, _, ho, _, _ => by simp [outAV] at ho
  | .part _ _ _ _, _, _, ho, _, _ => by simp [outAV] at ho
  | .inr _ _, _, _, ho, _, _ => by simp [outAV] at ho
  | .velt _ _ _, _, _, ho, _, _ => by simp [outAV] at ho
  | .view _ _, _, _, ho, _, hd => by
    simp only [outAV, Option.some.injEq] at ho
    subst ho
    show Reads c'.w c'.ok _ _ _
    rw [hw]
    exact Reads.mono hok (fun _ _ _ => rfl) hd
  | .own _ _, _, _, ho, _, _ => by simp [outAV] at ho
  | .empS, _, _, ho, _, hd => by simp only [outAV, Option.some.injEq] at ho; subst ho; exact hd
  | .guess _, _, _, ho, _, _ => by simp [outAV] at ho
  | .clo _ _, _, _, ho, _, _ => by simp [outAV] at ho
theorem DenL.out {c c' : Cx} {h : Nat → Option Blk} {u : Value} (hu : c'.ref 0 = u) (hok : ∀ b, c.ok b → c'.ok b) (hw : c'.w = c.w) : ∀ {xs vs : List AV} {rs : List Value}, outAV.outL h xs = some vs → (∀ m ∈ AV.names.namesL xs, c.ref m = u ∧ c'.dom 0) → DenL c xs rs → DenL c' (rowed.rowedL 0 vs) rs
  | [], _, _, ho, _, hd => by simp only [outAV.outL, Option.some.injEq] at ho; subst ho; exact hd
  | x :: xs, _, _, ho, hm, hd => by
    simp only [outAV.outL] at ho
    split at ho
    · rename_i v vs' h1 h2
      simp only [Option.some.injEq] at ho
      subst ho
      obtain ⟨r, rs', rfl, g1, g2⟩ := hd
      exact ⟨r, rs', rfl, Den.out hu hok hw h1 (fun m hm' => hm m (by simp [AV.names.namesL, hm'])) g1, DenL.out hu hok hw h2 (fun m hm' => hm m (by simp [AV.names.namesL, hm'])) g2⟩
    · simp at ho
end
mutual
theorem out_owns {h : Nat → Option Blk} : ∀ {x v : AV}, outAV h x = some v → ownsOf v = x.names.map (rowAt h) ∧ ∀ m ∈ x.names, ∃ t xs, h m = some (.row t xs)
  | .int _ _, _, ho => by simp only [outAV, Option.some.injEq] at ho; subst ho; exact ⟨rfl, by simp [AV.names]⟩
  | .bool _, _, ho => by simp only [outAV, Option.some.injEq] at ho; subst ho; exact ⟨rfl, by simp [AV.names]⟩
  | .lit _, _, ho => by simp only [outAV, Option.some.injEq] at ho; subst ho; exact ⟨rfl, by simp [AV.names]⟩
  | .str _, _, ho => by simp only [outAV, Option.some.injEq] at ho; subst ho; exact ⟨rfl, by simp [AV.names]⟩
  | .nilS, _, ho => by simp only [outAV, Option.some.injEq] at ho; subst ho; exact ⟨rfl, by simp [AV.names]⟩
  | .row nm, _, ho => by
    simp only [outAV] at ho
    split at ho
    · rename_i t xs hnm
      simp only [Option.some.injEq] at ho
      subst ho
      exact ⟨by simp [ownsOf, AV.names, rowAt, hnm], fun m hm => by simp only [AV.names, List.mem_singleton] at hm; subst hm; exact ⟨t, xs, hnm⟩⟩
    · simp at ho
  | .agg cs, _, ho => by
    simp only [outAV, Option.map_eq_some_iff] at ho
    obtain ⟨vs, ho, rfl⟩ := ho
    exact outL_owns ho
  | .tup cs, _, ho => by
    simp only [outAV, Option.map_eq_some_iff] at ho
    obtain ⟨vs, ho, rfl⟩ := ho
    exact outL_owns ho
  | .undef, _, ho => by simp [outAV] at ho
  | .unk, _, ho => by simp [outAV] at ho
  | .fn _, _, ho => by simp [outAV] at ho
  | .ptr _ _, _, ho => by simp [outAV] at ho
  | .elt _ _ _ _, _, ho => by simp [outAV] at ho
  | .part _ _ _ _, _, ho => by simp [outAV] at ho
  | .inr _ _, _, ho => by simp [outAV] at ho
  | .velt _ _ _, _, ho => by simp [outAV] at ho
  | .view _ _, _, ho => by simp only [outAV, Option.some.injEq] at ho; subst ho; exact ⟨rfl, by simp [AV.names]⟩
  | .own _ _, _, ho => by simp [outAV] at ho
  | .empS, _, ho => by simp only [outAV, Option.some.injEq] at ho; subst ho; exact ⟨rfl, by simp [AV.names]⟩
  | .guess _, _, ho => by simp [outAV] at ho
  | .clo _ _, _, ho => by simp [outAV] at ho
theorem outL_owns {h : Nat → Option Blk} : ∀ {xs vs : List AV}, outAV.outL h xs = some vs → ownsOf.ownsL vs = (AV.names.namesL xs).map (rowAt h) ∧ ∀ m ∈ AV.names.namesL xs, ∃ t xs, h m = some (.row t xs)
  | [], _, ho => by simp only [outAV.outL, Option.some.injEq] at ho; subst ho; exact ⟨rfl, by simp [AV.names.namesL]⟩
  | x :: xs, _, ho => by
    simp only [outAV.outL] at ho
    split at ho
    · rename_i v vs' h1 h2
      simp only [Option.some.injEq] at ho
      subst ho
      obtain ⟨a1, a2⟩ := out_owns h1
      obtain ⟨b1, b2⟩ := outL_owns h2
      refine ⟨by simp [ownsOf.ownsL, AV.names.namesL, a1, b1], fun m hm => ?_⟩
      simp only [AV.names.namesL, List.mem_append] at hm
      rcases hm with hm | hm
      · exact a2 m hm
      · exact b2 m hm
    · simp at ho
end
theorem resAV_sound {σ : St} {a : Act} {w : World} {ref : Nat → Value} {r : ResultVar} {v : AV} (h : RepAt base σ a w ref) (hr : resAV P σ r = some v) :
    ∃ x, (match r with
      | .tmp t => pure (a.tmps.getD t Go.undef)
      | .cell p t => do loadVar t (← asAddr (a.tmps.getD p Go.undef)) : Sem Value).run P w = .ok x w ∧ Den (cxOf base σ w ref) v x := by
  cases r with
  | tmp t =>
    simp only [resAV, Option.some.injEq] at hr
    subst hr
    exact ⟨_, rfl, h.env t⟩
  | cell p t =>
    unfold resAV at hr
    split at hr
    · simp at *
    · rename_i p' t' heq
      simp only [ResultVar.cell.injEq] at heq
      obtain ⟨rfl, rfl⟩ := heq
      split at hr
      · rename_i nm off hp
        split at hr
        · rename_i cs hnm
          have hd := h.env p
          rw [hp] at hd
          obtain ⟨_, b, hb, hv⟩ := id hd
          have hl : resLoad P (hideD σ.heap) t (.ptr nm off) = some (.tt, v) := by simp [resLoad, cellsOfH, hideD, hnm, hr]
          obtain ⟨x, hx, hdx⟩ := load_sound (w := w) (c := cxOf base σ w ref) rfl h.heapAt.hide hl trivial hd
          refine ⟨x, ?_, hdx⟩
          simp only [hv] at hx ⊢
          simpa [Instr.loadAt, Instr.sureAddr, asAddr] using hx
        · simp at hr
      · simp at hr
theorem resAVs_sound {σ : St} {a : Act} {w : World} {ref : Nat → Value} (h : RepAt base σ a w ref) : ∀ {rs : List ResultVar} {vs : List AV}, resAVs P σ rs = some vs →
    ∃ xs, (rs.mapM (m := Sem) fun
      | .tmp t => pure (a.tmps.getD t Go.undef)
      | .cell p t => do loadVar t (← asAddr (a.tmps.getD p Go.undef))).run P w = .ok xs w ∧ DenL (cxOf base σ w ref) vs xs
  | [], vs, hr => by
    simp only [resAVs, Option.some.injEq] at hr
    subst hr
    exact ⟨[], by simp, rfl⟩
  | r :: rs, vs, hr => by
    unfold resAVs at hr
    split at hr
    · rename_i v vs' h1 h2
      simp only [Option.some.injEq] at hr
      subst hr
      obtain ⟨x, hx, hd⟩ := resAV_sound h h1
      obtain ⟨xs, hxs, hds⟩ := resAVs_sound h h2
      refine ⟨x :: xs, ?_, x, xs, rfl, hd, hds⟩
      rw [List.mapM_cons, Sem.run_bind, hx, Result.andThen_ok, Sem.run_bind, hxs]
      rfl
    · simp at hr
def packAV : List AV → AV
  | [x] => x
  | xs => .tup xs
theorem owns_pack : ∀ vs : List AV, ownsOf (packAV vs) = ownsOf.ownsL vs
  | [] => rfl
  | [x] => by simp [packAV, ownsOf.ownsL]
  | x :: y :: l => rfl
theorem pack_den {c : Cx} {ys : List AV} {xs : List Value} {r : Value} (hds : DenL c ys xs) (hr : (∃ x, xs = [x] ∧ r = x) ∨ ((∀ x, xs ≠ [x]) ∧ r = .tuple xs.toArray)) : Den c (packAV ys) r := by
  have hl2 := hds.length
  rcases hr with ⟨x, rfl, rfl⟩ | ⟨hx, rfl⟩
  · match ys, hds with
    | [v], hds =>
      obtain ⟨x', _, hx', g, _⟩ := hds
      simp only [List.cons.injEq] at hx'
      obtain ⟨rfl, _⟩ := hx'
      exact g
    | [], hds => simp at hl2
    | v :: v' :: l, hds => simp at hl2
  · match ys, hds with
    | [], hds => exact ⟨xs, rfl, hds⟩
    | [v], hds =>
      exfalso
      match xs, hx, hl2 with
      | [x], hx, _ => exact hx x rfl
      | [], _, hl2 => simp at hl2
      | x :: y :: l, _, hl2 => simp at hl2
    | v :: v' :: l, hds => exact ⟨xs, rfl, hds⟩
theorem rowed_pack (m : Nat) : ∀ vs : List AV, rowed m (packAV vs) = packAV (rowed.rowedL m vs)
  | [] => rfl
  | [x] => rfl
  | x :: y :: l => rfl
theorem gives_of {n : Base} {σ : St} {a : Act} {w : World} {ref : Nat → Value} {vs0 vs : List AV} {xs : List Value} {r : Value} (h : RepAt n σ a w ref) (ho : outAV.outL σ.heap vs0 = some vs) (h1 : one? (AV.names.namesL vs0) = true) (hd : DenL (cxOf n σ w ref) vs0 xs)
    (hr : (∃ x, xs = [x] ∧ r = x) ∨ ((∀ x, xs ≠ [x]) ∧ r = .tuple xs.toArray)) : Gives n w (packAV vs) r := by
  obtain ⟨o1, o2⟩ := outL_owns ho
  have pack : ∀ u (own : Prop), (∀ b, (cxOf n σ w ref).ok b → ¬ Owns u b) → (∀ m ∈ AV.names.namesL vs0, ref m = u ∧ own) → Den (resCx n w u own) (rowed 0 (packAV vs)) r := by
    intro u own hok hu
    rw [rowed_pack]
    exact pack_den (DenL.out (c := cxOf n σ w ref) (c' := resCx n w u own) rfl (fun b hb => ⟨hb.2.1, hb.1, hok b hb⟩) rfl ho (fun m hm => ⟨(hu m hm).1, rfl, (hu m hm).2⟩) hd) hr
  match hN : AV.names.namesL vs0, h1 with
  | [], _ =>
    have hno : ownsOf (packAV vs) = [] := by rw [owns_pack, o1, hN]; rfl
    refine ⟨Go.undef, pack _ _ (fun b _ => by simp [Owns, blkOf, Go.undef]) (by rw [hN]; simp), fun _ => rfl, fun t xs' he => by rw [hno] at he; simp at he⟩
  | [nm], _ =>
    have hone : ownsOf (packAV vs) = [rowAt σ.heap nm] := by rw [owns_pack, o1, hN]; rfl
    obtain ⟨t, xs', hnm⟩ := o2 nm (by rw [hN]; simp)
    have hok : ∀ b, (cxOf n σ w ref).ok b → ¬ Owns (ref nm) b := fun b hb => hb.2.2 nm _ hnm rfl
    refine ⟨ref nm, pack _ _ hok (by rw [hN, hone]; simp), fun he => by rw [hone] at he; simp at he, fun t' xs'' he => ?_⟩
    rw [hone] at he
    simp only [rowAt, hnm, List.cons.injEq, and_true] at he
    injection he with e1 e2
    subst e1
    simp only [heq_eq_eq] at e2
    subst e2
    exact RowDen.go (h.blk _ _ hnm) (fun _ _ hbo => hbo) (fun _ _ => rfl) (fun _ _ g4 => g4.mono (fun b hb => ⟨hb.2.1, hb.1, hok b hb⟩) (fun _ _ _ => rfl))
  | _ :: _ :: _, h1 => simp [one?] at h1
theorem row_frz {σ : St} {w : World} {ref : Nat → Value} {nm : Nat} {t : Ty} {xs : List t.den} {v : Value} (hB : BlkDen (cxOf base σ w ref) base (ref nm) (.row t xs)) (hpl : t.isDeep = false) (hv : v = ref nm) : Reads w (fun b => base.sees b ∧ b < w.heap.size) (.seq t) xs [v] := by
  subst hv
  have key : ∀ (b : Nat) (o : Obj), w.heap[b]? = some o → b < w.heap.size := fun b o h => by
    rcases Nat.lt_or_ge b w.heap.size with h' | h'
    · exact h'
    · rw [Array.getElem?_eq_none h'] at h; simp at h
  rcases hB.old hpl with ⟨⟨ad, hv⟩, rfl⟩ | ⟨b, cap, vs, rest, ty, pre, hv, hown, hheap, hrow, hlen, hle, _⟩
  · exact ⟨ad, 0, by simpa using hv, Nat.le_refl _, .inl rfl⟩
  · refine ⟨some ⟨b, List.length pre, none⟩, cap, by rw [hv], hle, .inr ⟨b, _, rfl, ⟨.inl hown, key _ _ hheap⟩, fun i hi => ?_⟩⟩
    obtain ⟨us, h1, h2⟩ := hrow.2 i hi
    refine ⟨us, Reads.mono (fun _ h => ⟨h.2.1, h.1⟩) (fun _ _ _ => rfl) h1, fun j hj => ?_⟩
    have h3 := h2 j hj
    rw [List.getElem?_eq_getElem hj] at h3
    have hlt : i * t.size + j < vs.length := by
      rcases Nat.lt_or_ge (i * t.size + j) vs.length with h | h
      · exact h
      · rw [List.getElem?_eq_none h] at h3; simp at h3
    have hheap' : w.heap[b]? = some (.cells (List.toArray (pre ++ (vs ++ rest))) ty (0, 0)) := hheap
    simp only [World.cell?, hheap', Option.isSome_none, Bool.false_eq_true, if_false, Nat.add_assoc, List.getElem?_toArray]
    rw [List.getElem?_append_right (by omega), Nat.add_sub_cancel_left, List.getElem?_append_left hlt]
    exact h3
/-- What a result that gives up its rows is read under. -/
def frzCx (B : Base) (w : World) : Cx := { ref := fun _ => Go.undef, dom := fun _ => False, w, ok := fun b => B.sees b ∧ b < w.heap.size }
theorem viewOf_owns : ∀ {t : Ty} {xs : List t.den}, ownsOf (viewOf t xs) = []
  | .deep _, _ => rfl
  | .int _, _ => rfl
  | .bool, _ => rfl
  | .str, _ => rfl
  | .pair _ _, _ => rfl
  | .seq _, _ => rfl
mutual
theorem Den.frz {σ : St} {a : Act} {w : World} {ref : Nat → Value} (hrep : RepAt base σ a w ref) : ∀ {x v : AV} {r : Value}, frzAV σ.heap x = some v → Den (cxOf base σ w ref) x r → Den (frzCx base w) v r ∧ ownsOf v = []
  | .int _ _, _, _, ho, hd => by simp only [frzAV, Option.some.injEq] at ho; subst ho; exact ⟨hd, rfl⟩
  | .bool _, _, _, ho, hd => by simp only [frzAV, Option.some.injEq] at ho; subst ho; exact ⟨hd, rfl⟩
  | .lit _, _, _, ho, hd => by simp only [frzAV, Option.some.injEq] at ho; subst ho; exact ⟨hd, rfl⟩
  | .str _, _, _, ho, hd => by simp only [frzAV, Option.some.injEq] at ho; subst ho; exact ⟨hd, rfl⟩
  | .nilS, _, _, ho, hd => by simp only [frzAV, Option.some.injEq] at ho; subst ho; exact ⟨hd, rfl⟩
  | .empS, _, _, ho, hd => by simp only [frzAV, Option.some.injEq] at ho; subst ho; exact ⟨hd, rfl⟩
  | .view _ _, _, _, ho, hd => by
    simp only [frzAV, Option.some.injEq] at ho
    subst ho
    exact ⟨Reads.mono (fun b hb => ⟨hb.2.1, hb.1⟩) (fun _ _ _ => rfl) hd, rfl⟩
  | .row nm, _, r, ho, hd => by
    simp only [frzAV] at ho
    split at ho
    · rename_i t xs hnm
      simp only [Option.some.injEq] at ho
      subst ho
      refine ⟨viewOf_den ?_, viewOf_owns⟩
      have hB := hrep.blk _ _ hnm
      cases hpl : t.isDeep with
      | false => exact row_frz hB hpl (hd.2.1.trans (hB.hv hpl))
      | true =>
        cases t <;> simp only [Ty.isDeep, Bool.false_eq_true] at hpl
        case deep t' =>
          rw [hd.2.1]
          exact DeepRow.readsB (c := cxOf base σ w ref) (fun b hb => ⟨.inl (hB.lt rfl hb).1, (hB.lt rfl hb).2⟩) (show DeepRow (cxOf base σ w ref) base (ref nm) t' xs from hB)
    · simp at ho
  | .agg cs, _, _, ho, hd => by
    simp only [frzAV, Option.map_eq_some_iff] at ho
    obtain ⟨vs, ho, rfl⟩ := ho
    obtain ⟨rs, h1, h2⟩ := hd
    obtain ⟨g1, g2⟩ := DenL.frz hrep ho h2
    exact ⟨⟨rs, h1, g1⟩, g2⟩
  | .tup cs, _, _, ho, hd => by
    simp only [frzAV, Option.map_eq_some_iff] at ho
    obtain ⟨vs, ho, rfl⟩ := ho
    obtain ⟨rs, h1, h2⟩ := hd
    obtain ⟨g1, g2⟩ := DenL.frz hrep ho h2
    exact ⟨⟨rs, h1, g1⟩, g2⟩
  | .undef, _, _, ho, _ => by simp [frzAV] at ho
  | .unk, _, _, ho, _ => by simp [frzAV] at ho
  | .fn _, _, _, ho, _ => by simp [frzAV] at ho
  | .ptr _ _, _, _, ho, _ => by simp [frzAV] at ho
  | .elt _ _ _ _, _, _, ho, _ => by simp [frzAV] at ho
  | .inr _ _, _, _, ho, _ => by simp [frzAV] at ho
  | .part sz nm off n, _, _, ho, hd => by
    simp only [frzAV] at ho
    split at ho
    · rename_i t xs hnm
      cases hb : (Nat.beq sz t.size && !t.isDeep) <;> rw [hb] at ho <;> simp only [cond_true, cond_false, reduceCtorEq, Option.some.injEq] at ho
      subst ho
      simp only [Bool.and_eq_true, Bool.not_eq_true'] at hb
      have hs : sz = t.size := Nat.eq_of_beq_eq_true hb.1
      subst hs
      obtain ⟨h0, b, o, N, cap, ad, cap', hv, rfl, h1, h2, h3⟩ := hd
      have hr := row_frz (hrep.blk _ _ hnm) hb.2 (v := ref nm) rfl
      rw [show ref nm = _ from ((hrep.blk _ _ hnm).hv hb.2).symm.trans hv] at hr
      exact ⟨Reads.part hr h1 h2 h3, rfl⟩
    · simp at ho
  | .velt _ _ _, _, _, ho, _ => by simp [frzAV] at ho
  | .own _ _, _, _, ho, _ => by simp [frzAV] at ho
  | .guess _, _, _, ho, _ => by simp [frzAV] at ho
  | .clo _ _, _, _, ho, _ => by simp [frzAV] at ho
theorem DenL.frz {σ : St} {a : Act} {w : World} {ref : Nat → Value} (hrep : RepAt base σ a w ref) : ∀ {xs vs : List AV} {rs : List Value}, frzAV.frzL σ.heap xs = some vs → DenL (cxOf base σ w ref) xs rs → DenL (frzCx base w) vs rs ∧ ownsOf.ownsL vs = []
  | [], _, _, ho, hd => by simp only [frzAV.frzL, Option.some.injEq] at ho; subst ho; exact ⟨hd, rfl⟩
  | x :: xs, _, _, ho, hd => by
    simp only [frzAV.frzL] at ho
    split at ho
    · rename_i v vs' h1 h2
      simp only [Option.some.injEq] at ho
      subst ho
      obtain ⟨r, rs', rfl, g1, g2⟩ := hd
      obtain ⟨a1, a2⟩ := Den.frz hrep h1 g1
      obtain ⟨b1, b2⟩ := DenL.frz hrep h2 g2
      exact ⟨⟨r, rs', rfl, a1, b1⟩, by simp [ownsOf.ownsL, a2, b2]⟩
    · simp at ho
end
theorem gives_all {fz : Bool} {n : Base} {σ : St} {a : Act} {w : World} {ref : Nat → Value} {vs0 vs : List AV} {xs : List Value} {r : Value} (h : RepAt n σ a w ref) (ho : outAll fz σ.heap vs0 = some vs) (hd : DenL (cxOf n σ w ref) vs0 xs)
    (hr : (∃ x, xs = [x] ∧ r = x) ∨ ((∀ x, xs ≠ [x]) ∧ r = .tuple xs.toArray)) : Gives n w (packAV vs) r := by
  unfold outAll at ho
  cases fz <;> simp only [cond_true, cond_false] at ho
  · cases h1 : one? (AV.names.namesL vs0) <;> rw [h1] at ho <;> simp only [cond_true, cond_false, reduceCtorEq] at ho
    exact gives_of h ho h1 hd hr
  · obtain ⟨g1, g2⟩ := DenL.frz h ho hd
    have hno : ownsOf (packAV vs) = [] := by rw [owns_pack]; exact g2
    refine ⟨Go.undef, ?_, fun _ => rfl, fun t xs' he => by rw [hno] at he; simp at he⟩
    rw [rowed_none hno]
    have hle : (frzCx n w).le (resCx n w Go.undef (ownsOf (packAV vs) ≠ [])) := ⟨fun _ h => h.elim, fun _ h => h.elim, fun b hb => ⟨hb.1, hb.2, by simp [Owns, blkOf, Go.undef]⟩, fun _ _ _ => rfl⟩
    exact (pack_den g1 hr).mono hle
/-- What is left at the end: results without names; the lent row, if one is asked for. -/
def endOf (P : Program) (fn : Func) (lent : Bool) (σ : St) : Tree (List AV × Option OwnD) :=
  match resAVs P σ fn.results.toList with
  | some vs => match lent with
    | true => match AV.names.namesL vs, σ.heap BR with
      | [], some (.row t xs) => match outAV.outL σ.heap vs with
        | some vs => forceAgs vs fun vs => .leaf (vs, some ⟨t, xs⟩)
        | none => .stuck 27
      | _, _ => .stuck 26
    | false => match outAll false σ.heap vs with
        | some vs => forceAgs vs fun vs => .leaf (vs, none)
        | none => .stuck 21
  | none => .stuck 22
/-- A result that is the front of an own row: the row, cut. -/
def cutEnd (fn : Func) (σ : St) : Option (Prop × St) :=
  match fn.results.toList with
  | [.tmp r] => match σ.env r with
    | .part sz nm off n => match hideD σ.heap nm, σ.heap 650000 with
      | some (.row t xs), none => bif Nat.beq off 0 && Nat.beq sz t.size then
          some (1 ≤ n ∧ n ≤ xs.length, { σ with env := putEnv σ.env (some r) (.row 650000), heap := fun m => findU [(650000, .row t (xs.take n)), (nm, .dead)] m (σ.heap m) })
        else none
      | _, _ => none
    | _ => none
  | _ => none
def endT (P : Program) (fn : Func) (lent : Bool) (σ : St) : Tree (List AV × Option OwnD) :=
  match cutEnd fn σ with
  | some (q, σ1) => .need q (endOf P fn lent σ1)
  | none => endOf P fn lent σ
theorem cutEnd_sound {fn : Func} {base : Base} {w0 w : World} {σ σ1 : St} {a : Act} {q : Prop} (hc : cutEnd fn σ = some (q, σ1)) (hq : q) (h : Rep base w0 σ a w) : Rep base w0 σ1 a w := by
  obtain ⟨h1, h2, h3, ref, hrep⟩ := h
  unfold cutEnd at hc
  split at hc
  · rename_i r hr
    split at hc
    · rename_i sz nm off n henv
      split at hc
      · rename_i t xs hnm hdn
        cases hb : (Nat.beq off 0 && Nat.beq sz t.size) <;> rw [hb] at hc <;> simp only [cond_true, cond_false, reduceCtorEq, Option.some.injEq, Prod.mk.injEq] at hc
        obtain ⟨rfl, rfl⟩ := hc
        simp only [Bool.and_eq_true] at hb
        have e0 : off = 0 := Nat.eq_of_beq_eq_true hb.1
        have e1 : sz = t.size := Nat.eq_of_beq_eq_true hb.2
        subst e0 e1
        have hd := hrep.env r
        rw [henv] at hd
        obtain ⟨hdom, b, o, N, cap, ad, cap', hv, hval, hcap, _, hcase⟩ := hd
        have had : ad = some ⟨b, o, none⟩ := by
          rcases hcase with h0 | h0
          · omega
          · rw [h0]; simp
        subst had
        have hcap' : cap' = cap := by omega
        subst hcap'
        have hnd : nm ≠ 650000 := fun he => by subst he; rw [hideD_live hnm rfl] at hdn; simp at hdn
        have hσ : ∀ m, ({ σ with heap := fun m => findU [(650000, Blk.row t (xs.take n)), (nm, Blk.dead)] m (σ.heap m) } : St).heap m = if m = 650000 then some (.row t (xs.take n)) else if m = nm then some .dead else σ.heap m := by
          intro m
          simp only [findU]
          by_cases k1 : m = 650000
          · subst k1; simp
          · rw [nbeq_ne k1, if_neg k1]
            by_cases k2 : m = nm
            · subst k2; simp
            · rw [nbeq_ne k2, if_neg k2]; rfl
        have hpl := hideD_plain hnm
        replace hnm := hideD_live hnm rfl
        have hv0 : ref nm = .slice (some ⟨b, o, none⟩) N cap' := ((hrep.blk _ _ hnm).hv hpl).symm.trans hv
        rcases (hrep.blk _ _ hnm).old hpl with ⟨⟨ad, hv'⟩, rfl⟩ | ⟨b', capp, vs, rest, tyy, pre, hv', hown, hheap, hrow, hlen, hle, hpos⟩
        · simp at hq; omega
        rw [hv0] at hv'
        simp only [Value.slice.injEq, Option.some.injEq, Addr.mk.injEq, and_true] at hv'
        obtain ⟨⟨rfl, rfl⟩, rfl, rfl⟩ := hv'
        have hl : (xs.take n).length = n := by simp; omega
        have hm : n * t.size ≤ xs.length * t.size := Nat.mul_le_mul_right _ hq.2
        have hR := hrep.take (σ' := { σ with heap := fun m => findU [(650000, Blk.row t (xs.take n)), (nm, Blk.dead)] m (σ.heap m) }) (d := 650000) (u := .slice (some ⟨b, List.length pre, none⟩) n cap') (w' := w) hnm rfl (by decide) hdn hσ rfl rfl (Nat.le_refl _) (fun _ _ _ => rfl) (fun b' hb => by
            have hb := owns_slice hb
            simp only at hb
            subst hb
            exact .inl (by rw [hv0]; exact owns_some hpos)) (fun hle' => by
            refine (row_plain hpl).2 (.inr ⟨b, cap', vs.take (n * t.size), vs.drop (n * t.size) ++ rest, tyy, pre, by rw [hl], hown, ?_, (hrow.mono hle'.ok hle'.cell).takeN n hq.2, ?_, by rw [hl]; omega, hpos⟩)
            · rw [← List.append_assoc (vs.take (n * t.size)), List.take_append_drop]; exact hheap
            · have := hrow.1
              simp only [List.length_take, List.length_append, List.length_drop]
              omega)
        refine ⟨h1, h2, h3, _, ⟨hR.size, fun k => ?_, hR.blk, hR.inj, hR.le, hR.lent⟩⟩
        show Den _ (putEnv σ.env (some r) (.row 650000) k) _
        simp only [putEnv]
        by_cases hk : k = r
        · subst hk
          simp only [Nat.beq_refl, cond_true]
          refine ⟨⟨_, by show findU _ _ _ = _; simp [findU]; rfl⟩, ?_, _, _, _, hval⟩
          rw [hval]
          simp [cxOf]
        · rw [nbeq_ne hk]
          exact hR.env k
      · simp at hc
    · simp at hc
  · simp at hc
/-- A function that a row is lent: it stands under the name BR. -/
def exFuncW (P : Program) (C : FuncId → Option Ct) (wr : Bool) (L : Nat → Option LAnn) (fn : Func) (lent : Bool) (args : List AV) (o : OwnD) : Tree (List AV × Option OwnD) :=
  match fn.body with
  | some c =>
    bif Nat.ble args.length fn.ntmps && Nat.ble fn.ntmps BR then
    exC P C wr L c { nt := fn.ntmps, env := fun k => args.getD k .undef, heap := fun n => bif Nat.beq n BR then some (.row o.t o.xs) else none } fun e σ => match e with
      | .exit _ => .stuck 20
      | _ => endT P fn lent σ
    else .stuck 23
  | none => .stuck 24
/-- The run of a function, from a state that reads as it says. -/
theorem calls_run {f : FuncId} {fn : Func} {w : World} {vs : List Value} {α : Type} {Q : α → Prop} {B : Base} {σ0 : St} {c : Code} {k : Ex → St → Tree α} {K : St → Tree α} {E : α → World → Value → Prop} (hm : P.follows .mixedOrders = true) (hf : P.funcs[f]? = some fn) (hb : fn.body = some c) (hC : ∀ f ct, C f = some ct → Sat P f ct) (hL : LoopsOk P L fn.ntmps c)
    (hgood : Good B w) (hσ : σ0.nt = fn.ntmps) (h : (exC P C wr L c σ0 k).ok Q) (hr : Rep B w σ0 ⟨vs.toArray ++ Array.replicate (fn.ntmps - vs.toArray.size) Go.undef, []⟩ w)
    (hk : ∀ e σ, (k e σ).ok Q → (∀ id, e ≠ .exit id) ∧ (K σ).ok Q)
    (hK : ∀ σ a' w', (K σ).ok Q → Rep B w σ a' w' → a'.defers = [] ∧ ∃ r, (results fn a'.tmps).run P w' = .ok r w' ∧ ∃ x, Q x ∧ E x w' r ∧ Bel B w w') :
    Calls P f vs.toArray w fun e w' => ∃ r, e = .returned r ∧ ∃ x, Q x ∧ E x w' r ∧ Bel B w w' := by
  refine calls_of_wp hf hb (exC_sound (base := B) (w0 := w) hm ⟨hC, hgood⟩ c _ _ _ _ _ hL hσ h hr fun e σ a' w' _ h1 h2 => ?_)
  obtain ⟨h3, h4⟩ := hk e σ h1
  obtain ⟨g1, r, g2, x, g3, g4, g5⟩ := hK σ a' w' h4 h2
  cases e with
  | normal => exact ⟨g1, r, g2, r, rfl, x, g3, g4, g5⟩
  | ret => exact ⟨g1, r, g2, r, rfl, x, g3, g4, g5⟩
  | exit i => exact (h3 i rfl).elim
theorem results_run {fn : Func} {a' : Act} {w' : World} {xs : List Value} (hxs : (fn.results.toList.mapM (m := Sem) fun
      | .tmp t => pure (a'.tmps.getD t Go.undef)
      | .cell p t => do loadVar t (← asAddr (a'.tmps.getD p Go.undef))).run P w' = .ok xs w') :
    ∃ r, (results fn a'.tmps).run P w' = .ok r w' ∧ ((∃ x, xs = [x] ∧ r = x) ∨ ((∀ x, xs ≠ [x]) ∧ r = .tuple xs.toArray)) := by
  have hrun : (fn.results.mapM (m := Sem) fun
      | .tmp t => pure (a'.tmps.getD t Go.undef)
      | .cell p t => do loadVar t (← asAddr (a'.tmps.getD p Go.undef))).run P w' = .ok xs.toArray w' := by
    rw [Array.mapM_eq_mapM_toList, Sem.run_map, hxs]
    rfl
  match xs, hrun with
  | [x], hrun =>
    refine ⟨x, ?_, .inl ⟨x, rfl, rfl⟩⟩
    unfold results
    rw [Sem.run_bind]
    erw [hrun]
    rfl
  | [], hrun =>
    refine ⟨.tuple #[], ?_, .inr ⟨by simp, rfl⟩⟩
    unfold results
    rw [Sem.run_bind]
    erw [hrun]
    rfl
  | x :: y :: l, hrun =>
    refine ⟨.tuple (x :: y :: l).toArray, ?_, .inr ⟨by simp, rfl⟩⟩
    unfold results
    rw [Sem.run_bind]
    erw [hrun]
    simp
theorem env0_den {c : Cx} {args : List AV} {vs : List Value} (hd : DenL c args vs) (m : Nat) (k : Nat) : Den c (args.getD k .undef) ((vs.toArray ++ Array.replicate m Go.undef).getD k Go.undef) := by
  have hl := hd.length
  rcases Nat.lt_or_ge k args.length with hk | hk
  · obtain ⟨x, hx, hdx⟩ := hd.get k (x := args[k]) (by simp [hk])
    have : (vs.toArray ++ Array.replicate m Go.undef).getD k Go.undef = x := by
      rw [Array.getD_eq_getD_getElem?, Array.getElem?_append_left (by simp; omega)]
      simp [hx]
    rw [this]
    simp only [List.getD, List.getElem?_eq_getElem hk, Option.getD_some]
    exact hdx
  · have : (vs.toArray ++ Array.replicate m Go.undef).getD k Go.undef = Go.undef := by
      rw [Array.getD_eq_getD_getElem?, Array.getElem?_append_right (by simp; omega)]
      simp [Array.getElem?_replicate]
      split <;> rfl
    rw [this]
    simp only [List.getD, List.getElem?_eq_none hk, Option.getD_none]
    rfl
theorem calls_of_tree {f : FuncId} {fn : Func} {args : List AV} {w : World} {vs : List Value} {Q : List AV → Prop} (hm : P.follows .mixedOrders = true) (hf : P.funcs[f]? = some fn) (hC : ∀ f ct, C f = some ct → Sat P f ct) (hL : ∀ c, fn.body = some c → LoopsOk P L fn.ntmps c)
    {fz : Bool} (h : (exFunc P C wr L fn args fz).ok Q) (okc : Nat → Prop) (hgood : Good (Base.of w.heap.size okc) w) (hd : DenL (pureCx w okc) args vs) :
    Calls P f vs.toArray w fun e w' => ∃ r, e = .returned r ∧ ∃ ys, Q ys ∧ Gives (Base.of w.heap.size okc) w' (packAV ys) r ∧ Bel (Base.of w.heap.size okc) w w' := by
  unfold exFunc at h
  split at h
  · rename_i c hb
    cases hn : (Nat.ble args.length fn.ntmps && Nat.ble fn.ntmps BR) <;> rw [hn] at h <;> simp only [cond_true, cond_false] at h
    · exact h.elim
    simp only [Bool.and_eq_true, Nat.ble_eq] at hn
    obtain ⟨hn, hnb⟩ := hn
    have hl := hd.length
    refine calls_run (B := Base.of w.heap.size okc) (K := fun σ => match resAVs P σ fn.results.toList with
          | some vs => match outAll fz σ.heap vs with
              | some vs => forceAgs vs fun vs => .leaf vs
              | none => .stuck 21
          | none => .stuck 22) hm hf hb hC (hL c hb) hgood rfl h ?_ (fun e σ h1 => ?_) fun σ a' w' h1 h2 => ?_
    · refine ⟨rfl, Bel.refl _ _, Nat.le_refl _, fun _ => Go.undef, ?_, fun k => ?_, fun n B hB => by simp at hB, fun n m B B' b hB => by simp at hB, hnb, fun _ h => by simp at h⟩
      · simp; omega
      · have hle : (pureCx w okc).le (cxOf (Base.of w.heap.size okc) { nt := fn.ntmps, env := fun k => args.getD k .undef, heap := fun _ => none } w fun _ => Go.undef) :=
          ⟨fun _ h => h.elim, fun _ h => h.elim, fun b hb => ⟨hb.1, .inr hb.2, fun n B hB => by simp at hB⟩, fun _ _ _ => rfl⟩
        exact (env0_den hd _ k).mono hle
    · cases e with
      | normal => exact ⟨by simp, h1⟩
      | ret => exact ⟨by simp, h1⟩
      | exit i => exact h1.elim
    · obtain ⟨g1, g2, g3, ref, g4⟩ := h2
      refine ⟨g1, ?_⟩
      split at h1
      · rename_i vs0 hvs
        split at h1
        · rename_i vs' hout
          rw [forceAgs_eq] at h1
          have hv : Q vs' := h1
          obtain ⟨xs, hxs, hds⟩ := resAVs_sound g4 hvs
          obtain ⟨r, k1, k2⟩ := results_run hxs
          exact ⟨r, k1, vs', hv, gives_all g4 hout hds k2, g2⟩
        · exact h1.elim
      · exact h1.elim
  · exact h.elim
/-- The state that a function begins in that a row is lent. -/
theorem rep_lent {fn : Func} {args : List AV} {w : World} {vs : List Value} {u : Value} {o : OwnD} (hn : args.length ≤ fn.ntmps) (hnb : fn.ntmps ≤ BR) (hd : DenL (lentCx w u) args vs) (hBB : BlkDen (lentCx w u) (lentB w u) u (.row o.t o.xs)) :
    Rep (lentB w u) w { nt := fn.ntmps, env := fun k => args.getD k .undef, heap := fun n => bif Nat.beq n BR then some (.row o.t o.xs) else none } ⟨vs.toArray ++ Array.replicate (fn.ntmps - vs.toArray.size) Go.undef, []⟩ w := by
  have hl := hd.length
  have hone : ∀ n B, (bif Nat.beq n BR then some (Blk.row o.t o.xs) else none) = some B → n = BR ∧ B = .row o.t o.xs := fun n B h => by
    by_cases he : n = BR
    · subst he; simp only [Nat.beq_refl, cond_true, Option.some.injEq] at h; exact ⟨rfl, h.symm⟩
    · rw [nbeq_ne he] at h; simp at h
  have hle : (lentCx w u).le (cxOf (lentB w u) { nt := fn.ntmps, env := fun k => args.getD k .undef, heap := fun n => bif Nat.beq n BR then some (.row o.t o.xs) else none } w fun _ => u) :=
    ⟨fun n h => ⟨.row o.t o.xs, by simp only [lentCx] at h; subst h; simp⟩, fun _ _ => rfl, fun b hb => ⟨hb.1, .inr trivial, fun n B hB hl => hb.2⟩, fun _ _ _ => rfl⟩
  refine ⟨rfl, Bel.refl _ _, Nat.le_refl _, fun _ => u, ?_, fun k => (env0_den hd _ k).mono hle, fun n B hB => ?_, fun n m B B' b hB _ hB' _ _ _ => ?_, hnb, fun u' hu' _ => by simpa [lentB] using hu'⟩
  · simp; omega
  · obtain ⟨rfl, rfl⟩ := hone n B hB
    exact BlkDen.mono hle (fun _ _ => rfl) hBB
  · rw [(hone n B hB).1, (hone m B' hB').1]
theorem gives_plain {m : Base} {c : Cx} {h : Nat → Option Blk} {w : World} {vs0 vs : List AV} {xs : List Value} {r : Value} (ho : outAV.outL h vs0 = some vs) (hN : AV.names.namesL vs0 = []) (hok : ∀ b, c.ok b → m.sees b ∧ b < w.heap.size) (hw : c.w = w) (hd : DenL c vs0 xs)
    (hr : (∃ x, xs = [x] ∧ r = x) ∨ ((∀ x, xs ≠ [x]) ∧ r = .tuple xs.toArray)) : Gives m w (packAV vs) r := by
  obtain ⟨o1, _⟩ := outL_owns ho
  have hno : ownsOf (packAV vs) = [] := by rw [owns_pack, o1, hN]; rfl
  refine ⟨Go.undef, ?_, fun _ => rfl, fun t xs' he => by rw [hno] at he; simp at he⟩
  rw [rowed_pack]
  exact pack_den (DenL.out (c := c) (c' := resCx m w Go.undef (ownsOf (packAV vs) ≠ [])) rfl (fun b hb => ⟨(hok b hb).1, (hok b hb).2, by simp [Owns, blkOf, Go.undef]⟩) hw.symm ho (fun m hm => by rw [hN] at hm; simp at hm) hd) hr
def EndW (w w' : World) (u : Value) (lent : Bool) (y : List AV × Option OwnD) (r : Value) : Prop :=
  match lent with
  | true => Gives (Base.of w.heap.size) w' (packAV y.1) r ∧ ∃ o : OwnD, y.2 = some o ∧ BlkDen (lentCx w' u) (lentB w u) u (.row o.t o.xs)
  | false => Gives (lentB w u) w' (packAV y.1) r
theorem calls_of_treeW {f : FuncId} {fn : Func} {args : List AV} {w : World} {vs : List Value} {u : Value} {o : OwnD} {lent : Bool} {Q : List AV × Option OwnD → Prop} (hm : P.follows .mixedOrders = true) (hf : P.funcs[f]? = some fn) (hC : ∀ f ct, C f = some ct → Sat P f ct) (hL : ∀ c, fn.body = some c → LoopsOk P L fn.ntmps c)
    (h : (exFuncW P C wr L fn lent args o).ok Q) (hgood : Good (lentB w u) w) (hd : DenL (lentCx w u) args vs) (hB : BlkDen (lentCx w u) (lentB w u) u (.row o.t o.xs)) :
    Calls P f vs.toArray w fun e w' => ∃ r, e = .returned r ∧ ∃ y, Q y ∧ EndW w w' u lent y r ∧ Bel (lentB w u) w w' := by
  unfold exFuncW at h
  split at h
  · rename_i c hb
    cases hn : (Nat.ble args.length fn.ntmps && Nat.ble fn.ntmps BR) <;> rw [hn] at h <;> simp only [cond_true, cond_false] at h
    · exact h.elim
    simp only [Bool.and_eq_true, Nat.ble_eq] at hn
    obtain ⟨hn, hnb⟩ := hn
    refine calls_run (B := lentB w u) (K := fun σ => endT P fn lent σ) (E := fun y w' r => EndW w w' u lent y r) hm hf hb hC (hL c hb) hgood rfl h (rep_lent hn hnb hd hB) (fun e σ h1 => ?_) fun σ a' w' h1 h2 => ?_
    · cases e with
      | normal => exact ⟨by simp, h1⟩
      | ret => exact ⟨by simp, h1⟩
      | exit i => exact h1.elim
    · obtain ⟨σ, h1, h2⟩ : ∃ σ1, (endOf P fn lent σ1).ok Q ∧ Rep (lentB w u) w σ1 a' w' := by
        unfold endT at h1
        split at h1
        · rename_i q σ1 hc
          exact ⟨σ1, h1.2, cutEnd_sound hc h1.1 h2⟩
        · exact ⟨σ, h1, h2⟩
      obtain ⟨g1, g2, g3, ref, g4⟩ := h2
      refine ⟨g1, ?_⟩
      simp only [endOf] at h1
      split at h1
      · rename_i vs0 hvs
        obtain ⟨xs, hxs, hds⟩ := resAVs_sound g4 hvs
        obtain ⟨r, k1, k2⟩ := results_run hxs
        cases lent with
        | true =>
          simp only at h1
          split at h1
          · rename_i t ys hN hBR
            split at h1
            · rename_i vs' hout
              rw [forceAgs_eq] at h1
              refine ⟨r, k1, (vs', some ⟨t, ys⟩), h1, ⟨gives_plain (c := cxOf (lentB w u) σ w' ref) hout hN (fun b hb => ⟨.inr trivial, hb.1⟩) rfl hds k2, ⟨t, ys⟩, rfl, ?_⟩, g2⟩
              have hu : ref BR = u := g4.lent u rfl (by rw [hBR]; simp)
              have hblk := g4.blk _ _ hBR
              rw [hu] at hblk
              exact RowDen.go hblk (fun _ _ hbo => hbo) (fun _ _ => rfl) (fun _ _ q4 => q4.mono (fun b hb => ⟨hb.1, by rw [← hu]; exact hb.2.2 BR _ hBR rfl⟩) (fun _ _ _ => rfl))
            · exact h1.elim
          · exact h1.elim
        | false =>
          simp only at h1
          split at h1
          · rename_i vs' hout
            rw [forceAgs_eq] at h1
            exact ⟨r, k1, (vs', none), h1, gives_all g4 hout hds k2, g2⟩
          · exact h1.elim
      · exact h1.elim
  · exact h.elim
/-- A function that is handed a box to write into: it stands under the name BR; the results lead nowhere. -/
def endB (P : Program) (fn : Func) (σ : St) : Tree (List AV × TyD) :=
  match resAVs P σ fn.results.toList with
  | some vs => match σ.heap BR with
    | some (.box cs) => match inferL σ.heap cs, AV.names.namesL cs, outAll false σ.heap vs with
      | some d, [], some vs' => bif noView (packAV vs') && !(AV.names.namesL vs).any (Nat.beq BR) then forceAgs vs' fun vs' => .leaf (vs', d) else .stuck 28
      | _, _, _ => .stuck 26
    | _ => .stuck 27
  | none => .stuck 22
def exFuncB (P : Program) (C : FuncId → Option Ct) (wr : Bool) (L : Nat → Option LAnn) (fn : Func) (args : List AV) (d : TyD) : Tree (List AV × TyD) :=
  match fn.body with
  | some c =>
    bif Nat.ble (args.length + 1) fn.ntmps && Nat.ble fn.ntmps BR then
    exC P C wr L c { nt := fn.ntmps, env := fun k => (AV.ptr BR 0 :: args).getD k .undef, heap := fun n => bif Nat.beq n BR then some (.box (enc d.t d.x)) else none } fun e σ => match e with
      | .exit _ => .stuck 20
      | _ => endB P fn σ
    else .stuck 23
  | none => .stuck 24
theorem rep_box {fn : Func} {args : List AV} {w : World} {vs : List Value} {u : Value} {d : TyD} {okc : Nat → Prop} (hn : args.length + 1 ≤ fn.ntmps) (hnb : fn.ntmps ≤ BR) (hd : DenL (lentCo w u okc) args vs) (hBB : BlkDen (lentCo w u okc) (lentBo w u okc) u (.box (enc d.t d.x))) :
    Rep (lentBo w u okc) w { nt := fn.ntmps, env := fun k => (AV.ptr BR 0 :: args).getD k .undef, heap := fun n => bif Nat.beq n BR then some (.box (enc d.t d.x)) else none } ⟨(u :: vs).toArray ++ Array.replicate (fn.ntmps - (u :: vs).toArray.size) Go.undef, []⟩ w := by
  have hl := hd.length
  have hone : ∀ n B, (bif Nat.beq n BR then some (Blk.box (enc d.t d.x)) else none) = some B → n = BR ∧ B = .box (enc d.t d.x) := fun n B h => by
    by_cases he : n = BR
    · subst he; simp only [Nat.beq_refl, cond_true, Option.some.injEq] at h; exact ⟨rfl, h.symm⟩
    · rw [nbeq_ne he] at h; simp at h
  have hle : (lentCo w u okc).le (cxOf (lentBo w u okc) { nt := fn.ntmps, env := fun k => (AV.ptr BR 0 :: args).getD k .undef, heap := fun n => bif Nat.beq n BR then some (.box (enc d.t d.x)) else none } w fun _ => u) :=
    ⟨fun n h => ⟨.box (enc d.t d.x), by simp only [lentCo] at h; subst h; simp⟩, fun _ _ => rfl, fun b hb => ⟨hb.1, .inr hb.2.1, fun n B hB hl => hb.2.2⟩, fun _ _ _ => rfl⟩
  have hd' : DenL (lentCo w u okc) (AV.ptr BR 0 :: args) (u :: vs) := by
    obtain ⟨b, _, _, g1, _⟩ := id hBB
    exact ⟨u, vs, rfl, ⟨rfl, b, g1, g1⟩, hd⟩
  refine ⟨rfl, Bel.refl _ _, Nat.le_refl _, fun _ => u, ?_, fun k => (env0_den hd' _ k).mono hle, fun n B hB => ?_, fun n m B B' b hB _ hB' _ _ _ => ?_, hnb, fun u' hu' _ => by simpa [lentBo] using hu'⟩
  · simp; omega
  · obtain ⟨rfl, rfl⟩ := hone n B hB
    exact BlkDen.mono hle (fun _ _ => rfl) hBB
  · rw [(hone n B hB).1, (hone m B' hB').1]
theorem gives_fresh {w w' : World} {u : Value} {okc : Nat → Prop} {σ : St} {a : Act} {ref : Nat → Value} {cs : List AV} {vs0 vs : List AV} {xs : List Value} {r : Value} (h : RepAt (lentBo w u okc) σ a w' ref) (hBR : σ.heap BR = some (.box cs)) (hu : ref BR = u) (ho : outAV.outL σ.heap vs0 = some vs) (h1 : one? (AV.names.namesL vs0) = true) (hnb : BR ∉ AV.names.namesL vs0)
    (hnv : noView (packAV vs) = true) (hd : DenL (cxOf (lentBo w u okc) σ w' ref) vs0 xs) (hr : (∃ x, xs = [x] ∧ r = x) ∨ ((∀ x, xs ≠ [x]) ∧ r = .tuple xs.toArray)) :
    ∃ u', GivesU (Base.of w.heap.size) w' (packAV vs) r u' ∧ ∀ b, (cxOf (lentBo w u okc) σ w' ref).ok b → ¬ Owns u' b := by
  obtain ⟨o1, o2⟩ := outL_owns ho
  have pack : ∀ u' (own : Prop), (∀ b, (cxOf (lentBo w u okc) σ w' ref).ok b → ¬ Owns u' b) → (∀ m ∈ AV.names.namesL vs0, ref m = u' ∧ own) → Den (resCx (Base.of w.heap.size) w' u' own) (rowed 0 (packAV vs)) r := by
    intro u' own hok hu
    have hden : Den (resCx (lentBo w u okc) w' u' own) (rowed 0 (packAV vs)) r := by
      rw [rowed_pack]
      exact pack_den (DenL.out (c := cxOf (lentBo w u okc) σ w' ref) (c' := resCx (lentBo w u okc) w' u' own) rfl (fun b hb => ⟨hb.2.1, hb.1, hok b hb⟩) rfl ho (fun m hm => ⟨(hu m hm).1, rfl, (hu m hm).2⟩) hd) hr
    have := Den.noView (ok := fun _ => False) hnv hden
    have hle : Cx.le { resCx (lentBo w u okc) w' u' own with ok := fun _ => False } (resCx (Base.of w.heap.size) w' u' own) := ⟨fun _ h => h, fun _ _ => rfl, fun _ h => h.elim, fun _ _ h => h.elim⟩
    exact this.mono hle
  match hN : AV.names.namesL vs0, h1 with
  | [], _ =>
    have hno : ownsOf (packAV vs) = [] := by rw [owns_pack, o1, hN]; rfl
    exact ⟨Go.undef, ⟨pack _ _ (fun b _ => by simp [Owns, blkOf, Go.undef]) (by rw [hN]; simp), fun _ => rfl, fun t xs' he => by rw [hno] at he; simp at he⟩, fun b _ => by simp [Owns, blkOf, Go.undef]⟩
  | [nm], _ =>
    have hone : ownsOf (packAV vs) = [rowAt σ.heap nm] := by rw [owns_pack, o1, hN]; rfl
    obtain ⟨t, xs', hnm⟩ := o2 nm (by rw [hN]; simp)
    have hok : ∀ b, (cxOf (lentBo w u okc) σ w' ref).ok b → ¬ Owns (ref nm) b := fun b hb => hb.2.2 nm _ hnm rfl
    have hne : nm ≠ BR := fun he => hnb (by rw [hN, he]; simp)
    refine ⟨ref nm, ⟨pack _ _ hok (by rw [hN, hone]; simp), fun he => by rw [hone] at he; simp at he, fun t' xs'' he => ?_⟩, hok⟩
    have hfl := noView_owns (o := rowAt σ.heap nm) hnv (by rw [hone]; simp)
    rw [hone] at he
    simp only [rowAt, hnm, List.cons.injEq, and_true] at he hfl
    injection he with e1 e2
    subst e1
    simp only [heq_eq_eq] at e2
    subst e2
    · refine RowDen.go (h.blk _ _ hnm) (fun b hb g2 => .inl ?_) (fun _ _ => rfl) (fun hp _ g4 => g4.flat (okR_flat hfl hp))
      rcases g2 with g2 | g2
      · exact g2
      · exact (hne (h.inj nm BR _ _ b hnm rfl hBR rfl hb (by rw [hu]; exact g2))).elim
  | _ :: _ :: _, h1 => simp [one?] at h1
theorem calls_of_treeB {f : FuncId} {fn : Func} {args : List AV} {w : World} {vs : List Value} {u : Value} {d : TyD} {okc : Nat → Prop} {Q : List AV × TyD → Prop} (hm : P.follows .mixedOrders = true) (hf : P.funcs[f]? = some fn) (hC : ∀ f ct, C f = some ct → Sat P f ct) (hL : ∀ c, fn.body = some c → LoopsOk P L fn.ntmps c)
    (h : (exFuncB P C wr L fn args d).ok Q) (hgood : Good (lentBo w u okc) w) (hd : DenL (lentCo w u okc) args vs) (hB : BlkDen (lentCo w u okc) (lentBo w u okc) u (.box (enc d.t d.x))) :
    Calls P f (u :: vs).toArray w fun e w' => ∃ r, e = .returned r ∧ ∃ y, Q y ∧ (∃ u', GivesU (Base.of w.heap.size) w' (packAV y.1) r u' ∧ BlkDen (afterCo w w' u u' okc) (lentBo w u okc) u (.box (enc y.2.t y.2.x))) ∧ Bel (lentBo w u okc) w w' := by
  unfold exFuncB at h
  split at h
  · rename_i c hb
    cases hn : (Nat.ble (args.length + 1) fn.ntmps && Nat.ble fn.ntmps BR) <;> rw [hn] at h <;> simp only [cond_true, cond_false] at h
    · exact h.elim
    simp only [Bool.and_eq_true, Nat.ble_eq] at hn
    obtain ⟨hn, hnb⟩ := hn
    refine calls_run (B := lentBo w u okc) (K := fun σ => endB P fn σ) (E := fun y w' r => ∃ u', GivesU (Base.of w.heap.size) w' (packAV y.1) r u' ∧ BlkDen (afterCo w w' u u' okc) (lentBo w u okc) u (.box (enc y.2.t y.2.x))) hm hf hb hC (hL c hb) hgood rfl h (rep_box hn hnb hd hB) (fun e σ h1 => ?_) fun σ a' w' h1 h2 => ?_
    · cases e with
      | normal => exact ⟨by simp, h1⟩
      | ret => exact ⟨by simp, h1⟩
      | exit i => exact h1.elim
    · obtain ⟨g1, g2, g3, ref, g4⟩ := h2
      refine ⟨g1, ?_⟩
      simp only [endB] at h1
      split at h1
      · rename_i vs0 hvs
        obtain ⟨xs, hxs, hds⟩ := resAVs_sound g4 hvs
        obtain ⟨r, k1, k2⟩ := results_run hxs
        split at h1
        · rename_i cs hBR
          split at h1
          · rename_i dd vs' hinf hcn hout
            cases hck : (noView (packAV vs') && !(AV.names.namesL vs0).any (Nat.beq BR)) <;> rw [hck] at h1 <;> simp only [cond_true, cond_false] at h1
            · exact h1.elim
            simp only [Bool.and_eq_true, Bool.not_eq_true', List.any_eq_false] at hck
            obtain ⟨hnv, hnbr⟩ := hck
            rw [forceAgs_eq] at h1
            have hu : ref BR = u := g4.lent u rfl (by rw [hBR]; simp)
            unfold outAll at hout
            simp only [cond_false] at hout
            cases hon : one? (AV.names.namesL vs0) <;> rw [hon] at hout <;> simp only [cond_true, cond_false, reduceCtorEq] at hout
            obtain ⟨u', hg, hu'⟩ := gives_fresh g4 hBR hu hout hon (fun hx => hnbr BR hx (by simp)) hnv hds k2
            refine ⟨r, k1, (vs', dd), h1, ⟨u', hg, ?_⟩, g2⟩
            obtain ⟨b, zs, ty, q1, q2, q3, q4⟩ := g4.blk _ _ hBR
            rw [hu] at q1
            refine ⟨b, zs, ty, q1, q2, q3, enc_den (Reads.mono (w := w') (w' := w') (fun b' hb' => ?_) (fun _ _ _ => rfl) (inferL_den (h := σ.heap) hinf hcn q4))⟩
            have hb' : (cxOf (lentBo w u okc) σ w' ref).ok b' := hb'
            have hub : ¬ Owns u b' := by rw [← hu]; exact hb'.2.2 BR _ hBR rfl
            refine ⟨?_, hb'.1, hub, hu' b' hb'⟩
            rcases hb'.2.1 with h6 | h6
            · rcases h6 with h6 | h6
              · exact .inl h6
              · exact (hub h6).elim
            · exact .inr h6
          · exact h1.elim
        · exact h1.elim
      · exact h1.elim
  · exact h.elim
/-- A function that returns a box of its own. -/
def endN (P : Program) (fn : Func) (σ : St) : Tree TyD :=
  match resAVs P σ fn.results.toList with
  | some [.ptr nm off] => match σ.heap nm with
    | some (.box cs) => match inferL σ.heap cs, AV.names.namesL cs, Nat.beq off 0 with
      | some d, [], true => .leaf d
      | _, _, _ => .stuck 26
    | _ => .stuck 27
  | _ => .stuck 22
def exFuncN (P : Program) (C : FuncId → Option Ct) (wr : Bool) (L : Nat → Option LAnn) (fn : Func) (args : List AV) : Tree TyD :=
  match fn.body with
  | some c =>
    bif Nat.ble args.length fn.ntmps && Nat.ble fn.ntmps BR then
    exC P C wr L c { nt := fn.ntmps, env := fun k => args.getD k .undef, heap := fun _ => none } fun e σ => match e with
      | .exit _ => .stuck 20
      | _ => endN P fn σ
    else .stuck 23
  | none => .stuck 24
theorem calls_of_treeN {f : FuncId} {fn : Func} {args : List AV} {w : World} {vs : List Value} {Q : TyD → Prop} (hm : P.follows .mixedOrders = true) (hf : P.funcs[f]? = some fn) (hC : ∀ f ct, C f = some ct → Sat P f ct) (hL : ∀ c, fn.body = some c → LoopsOk P L fn.ntmps c)
    (h : (exFuncN P C wr L fn args).ok Q) (okc : Nat → Prop) (hgood : Good (Base.of w.heap.size okc) w) (hd : DenL (pureCx w okc) args vs) :
    Calls P f vs.toArray w fun e w' => ∃ r, e = .returned r ∧ ∃ d, Q d ∧ BlkDen (resCx (Base.of w.heap.size okc) w' r False) (Base.of w.heap.size okc) r (.box (enc d.t d.x)) ∧ Bel (Base.of w.heap.size okc) w w' := by
  unfold exFuncN at h
  split at h
  · rename_i c hb
    cases hn : (Nat.ble args.length fn.ntmps && Nat.ble fn.ntmps BR) <;> rw [hn] at h <;> simp only [cond_true, cond_false] at h
    · exact h.elim
    simp only [Bool.and_eq_true, Nat.ble_eq] at hn
    obtain ⟨hn, hnb⟩ := hn
    have hl := hd.length
    refine calls_run (B := Base.of w.heap.size okc) (K := fun σ => endN P fn σ) (E := fun d w' r => BlkDen (resCx (Base.of w.heap.size okc) w' r False) (Base.of w.heap.size okc) r (.box (enc d.t d.x))) hm hf hb hC (hL c hb) hgood rfl h ?_ (fun e σ h1 => ?_) fun σ a' w' h1 h2 => ?_
    · refine ⟨rfl, Bel.refl _ _, Nat.le_refl _, fun _ => Go.undef, ?_, fun k => ?_, fun n B hB => by simp at hB, fun n m B B' b hB => by simp at hB, hnb, fun _ h => by simp at h⟩
      · simp; omega
      · have hle : (pureCx w okc).le (cxOf (Base.of w.heap.size okc) { nt := fn.ntmps, env := fun k => args.getD k .undef, heap := fun _ => none } w fun _ => Go.undef) :=
          ⟨fun _ h => h.elim, fun _ h => h.elim, fun b hb => ⟨hb.1, .inr hb.2, fun n B hB => by simp at hB⟩, fun _ _ _ => rfl⟩
        exact (env0_den hd _ k).mono hle
    · cases e with
      | normal => exact ⟨by simp, h1⟩
      | ret => exact ⟨by simp, h1⟩
      | exit i => exact h1.elim
    · obtain ⟨g1, g2, g3, ref, g4⟩ := h2
      refine ⟨g1, ?_⟩
      simp only [endN] at h1
      split at h1
      · rename_i nm off hvs
        obtain ⟨xs, hxs, hds⟩ := resAVs_sound g4 hvs
        obtain ⟨r, k1, k2⟩ := results_run hxs
        split at h1
        · rename_i cs hnm
          split at h1
          · rename_i dd hinf hcn hoff
            have hoff : off = 0 := Nat.eq_of_beq_eq_true hoff
            subst hoff
            obtain ⟨v, vs', rfl, hv, hvs'⟩ := hds
            simp only [DenL] at hvs'
            subst hvs'
            have hrv : r = v := by
              rcases k2 with ⟨x, hx, rfl⟩ | ⟨hx, _⟩
              · simpa using hx.symm
              · exact absurd rfl (hx v)
            obtain ⟨_, b, hb1, hb2⟩ := hv
            have hr : r = ref nm := by rw [hrv, hb2]; exact hb1.symm
            refine ⟨r, k1, dd, h1, ?_, g2⟩
            obtain ⟨b', zs, ty, q1, q2, q3, q4⟩ := g4.blk _ _ hnm
            rw [← hr] at q1
            refine ⟨b', zs, ty, q1, q2, q3, enc_den (Reads.mono (w := w') (w' := w') (fun b2 hb2 => ?_) (fun _ _ _ => rfl) (inferL_den (h := σ.heap) hinf hcn q4))⟩
            have hb2 : (cxOf (Base.of w.heap.size okc) σ w' ref).ok b2 := hb2
            exact ⟨hb2.2.1, hb2.1, by rw [hr]; exact hb2.2.2 nm _ hnm rfl⟩
          · exact h1.elim
        · exact h1.elim
      · exact h1.elim
  · exact h.elim
end
end Sx
end Go.Proofs.Ytemlpimibhijoaa
