/- The evaluator: a state seen through a loop's head: slots and names that are kept, rows under names of their own. Conditions: as each says. -/
import Derived.Test.YtemlpimibhijoaaSxI
set_option linter.unusedSimpArgs false
set_option linter.unusedVariables false
namespace Go.Proofs.Ytemlpimibhijoaa
open Go.RowKit
namespace Sx
def renAV (ren : Nat → Nat) : AV → AV
  | .ptr nm off => .ptr (ren nm) off
  | .elt sz nm i off => .elt sz (ren nm) i off
  | .part sz nm off n => .part sz (ren nm) off n
  | .row nm => .row (ren nm)
  | .agg cs => .agg (renL cs)
  | .tup cs => .tup (renL cs)
  | .clo f cs => .clo f (renL cs)
  | x => x
where renL : List AV → List AV
  | [] => []
  | x :: xs => renAV ren x :: renL xs
structure Sub (σ σ' : St) (ren : Nat → Nat) : Prop where
  nt : σ'.nt = σ.nt
  br : σ'.heap BR ≠ none → ren BR = BR
  env : ∀ k, σ'.env k = .unk ∨ (renAV ren (σ'.env k) = σ.env k ∧ ∀ n ∈ (σ'.env k).names, σ'.heap n ≠ none)
  inj : ∀ n m, σ'.heap n ≠ none → σ'.heap m ≠ none → ren n = ren m → n = m
  heap : ∀ n B, σ'.heap n = some B → (∃ t xs, B = .row t xs ∧ σ.heap (ren n) = some (.row t xs)) ∨ (∃ cs, B = .box cs ∧ σ.heap (ren n) = some (.box (renAV.renL ren cs)) ∧ ∀ m ∈ AV.names.namesL cs, σ'.heap m ≠ none)
section
variable {base : Base} {w0 w : World} {σ σ' : St} {a : Act} {ref : Nat → Value} {c c' : Cx} {ren : Nat → Nat}
mutual
theorem Den.ren {dom' : Nat → Prop} (hbr : dom' 700000 → ren 700000 = 700000) (hr : ∀ n, dom' n → c'.dom n ∧ c'.ref n = c.ref (ren n)) (hok : ∀ b, c.ok b → c'.ok b) (hc : ∀ b o, c.ok b → c'.w.cell? ⟨b, o, none⟩ = c.w.cell? ⟨b, o, none⟩) :
    ∀ {x : AV} {v : Value}, (∀ n ∈ x.names, dom' n) → Den c (renAV ren x) v → Den c' x v
  | .int _ _, _, _, h => h
  | .bool _, _, _, h => h
  | .lit _, _, _, h => h
  | .str _, _, _, h => h
  | .undef, _, _, h => h
  | .unk, _, _, h => h
  | .fn _, _, _, h => h
  | .nilS, _, _, h => h
  | .empS, _, _, h => h
  | .guess _, _, _, h => h
  | .clo f cs, _, hn, h => by
    obtain ⟨vs, h1, h2⟩ := h
    exact ⟨vs, h1, DenL.ren hbr hr hok hc hn h2⟩
  | .ptr nm off, _, hn, h => by
    obtain ⟨h1, h2⟩ := hr nm (hn nm (by simp [AV.names]))
    obtain ⟨_, b, h3, h4⟩ := h
    exact ⟨h1, b, h2.trans h3, h4⟩
  | .elt sz nm i off, _, hn, h => by
    obtain ⟨h1, h2⟩ := hr nm (hn nm (by simp [AV.names]))
    obtain ⟨_, b, o, n, cap, h3, h4⟩ := h
    exact ⟨h1, b, o, n, cap, (congrArg headV h2).trans h3, h4⟩
  | .inr i off, _, hn, h => by
    have h0 := hn 700000 (by simp [AV.names])
    obtain ⟨h1, h2⟩ := hr 700000 h0
    rw [hbr h0] at h2
    obtain ⟨_, s, ins, a, n, cap, h3, h4⟩ := h
    exact ⟨h1, s, ins, a, n, cap, h2.trans h3, h4⟩
  | .part sz nm off n, _, hn, h => by
    obtain ⟨h1, h2⟩ := hr nm (hn nm (by simp [AV.names]))
    obtain ⟨_, b, o, N, cap, a, cap', h3, h4⟩ := h
    exact ⟨h1, b, o, N, cap, a, cap', (congrArg headV h2).trans h3, h4⟩
  | .row nm, _, hn, h => by
    obtain ⟨h1, h2⟩ := hr nm (hn nm (by simp [AV.names]))
    exact ⟨h1, h.2.1.trans (congrArg headV h2.symm), h.2.2⟩
  | .velt t x off, _, _, h => by
    obtain ⟨b, o, us, h1, h2, h3, h4⟩ := h
    exact ⟨b, o, us, h1, hok _ h2, h3.mono hok hc, fun j hj => (hc _ _ h2).trans (h4 j hj)⟩
  | .view t xs, _, _, h => Reads.mono hok hc h
  | .own t xs, _, _, h => Reads.mono hok hc h
  | .agg cs, _, hn, h => by
    obtain ⟨vs, h1, h2⟩ := h
    exact ⟨vs, h1, DenL.ren hbr hr hok hc hn h2⟩
  | .tup cs, _, hn, h => by
    obtain ⟨vs, h1, h2⟩ := h
    exact ⟨vs, h1, DenL.ren hbr hr hok hc hn h2⟩
theorem DenL.ren {dom' : Nat → Prop} (hbr : dom' 700000 → ren 700000 = 700000) (hr : ∀ n, dom' n → c'.dom n ∧ c'.ref n = c.ref (ren n)) (hok : ∀ b, c.ok b → c'.ok b) (hc : ∀ b o, c.ok b → c'.w.cell? ⟨b, o, none⟩ = c.w.cell? ⟨b, o, none⟩) :
    ∀ {xs : List AV} {vs : List Value}, (∀ n ∈ AV.names.namesL xs, dom' n) → DenL c (renAV.renL ren xs) vs → DenL c' xs vs
  | [], _, _, h => h
  | x :: xs, _, hn, h => by
    obtain ⟨v, vs', rfl, h1, h2⟩ := h
    exact ⟨v, vs', rfl, Den.ren hbr hr hok hc (fun n hm => hn n (by simp [AV.names.namesL, hm])) h1, DenL.ren hbr hr hok hc (fun n hm => hn n (by simp [AV.names.namesL, hm])) h2⟩
end
theorem Sub.rep (hs : Sub σ σ' ren) (h : Rep base w0 σ a w) : Rep base w0 σ' a w := by
  obtain ⟨h1, h2, h3, ref, h⟩ := h
  have hlive : ∀ n B, σ'.heap n = some B → ∃ B0, σ.heap (ren n) = some B0 ∧ B0.live = true ∧ B.live = true := fun n B hB => by
    rcases hs.heap n B hB with ⟨t, xs, rfl, h'⟩ | ⟨cs, rfl, h', _⟩
    · exact ⟨_, h', rfl, rfl⟩
    · exact ⟨_, h', rfl, rfl⟩
  have hr : ∀ n, σ'.heap n ≠ none → (cxOf base σ' w fun n => ref (ren n)).dom n ∧ (cxOf base σ' w fun n => ref (ren n)).ref n = (cxOf base σ w ref).ref (ren n) := fun n hn => by
    cases hB : σ'.heap n with
    | none => exact absurd hB hn
    | some B => exact ⟨⟨B, hB⟩, rfl⟩
  have hok : ∀ b, (cxOf base σ w ref).ok b → (cxOf base σ' w fun n => ref (ren n)).ok b := fun b hb => ⟨hb.1, hb.2.1, fun n B hB hl => by
    obtain ⟨B0, g1, g2, _⟩ := hlive n B hB
    exact hb.2.2 _ B0 g1 g2⟩
  refine ⟨h1, h2, h3, fun n => ref (ren n), by rw [hs.nt]; exact h.size, fun k => ?_, fun n B hB => ?_, fun n m B B' b hB hl hB' hl' e1 e2 => ?_, by rw [hs.nt]; exact h.le, fun u hu hx => ?_⟩
  · rcases hs.env k with hk | ⟨hk, hn⟩
    · rw [hk]; trivial
    · have := h.env k
      rw [← hk] at this
      exact Den.ren hs.br hr hok (fun _ _ _ => rfl) hn this
  · rcases hs.heap n B hB with ⟨t, xs, rfl, h'⟩ | ⟨cs, rfl, h', hn⟩
    · exact RowDen.go (h.blk _ _ h') (fun _ _ hbo => hbo) (fun _ _ => rfl) (fun _ _ g4 => g4.mono hok (fun _ _ _ => rfl))
    · obtain ⟨b, vs, ty, g1, g2, g3, g4⟩ := h.blk _ _ h'
      exact ⟨b, vs, ty, g1, g2, g3, DenL.ren hs.br hr hok (fun _ _ _ => rfl) hn g4⟩
  · obtain ⟨C, g1, g2, _⟩ := hlive n B hB
    obtain ⟨C', g1', g2', _⟩ := hlive m B' hB'
    exact hs.inj n m (by rw [hB]; simp) (by rw [hB']; simp) (h.inj _ _ C C' b g1 g2 g1' g2' e1 e2)
  · have e := hs.br hx
    simp only [e]
    refine h.lent u hu fun hy => ?_
    cases hB : σ'.heap BR with
    | none => exact hx hB
    | some B =>
      obtain ⟨B0, g, _⟩ := hlive BR B hB
      rw [e, hy] at g
      simp at g
end
/-! ### a loop's head -/
structure LD where
  same : List AV
  blk : List Blk
  vals : List AV
  boxes : List (List AV)
inductive Ex where
  | normal | exit (id : Nat) | ret
inductive LTree where
  | leaf (e : Ex) (vals : List AV) (boxes : List (List AV))
  | ite (c : Bool) (a b : LTree)
def LTree.val : LTree → Ex × List AV × List (List AV)
  | .leaf e v b => (e, v, b)
  | .ite c a b => bif c then a.val else b.val
/-- A slot, a box's cell that may hold nil at a head where a row is meant: the row's name and type. -/
structure NilE where
  k : Nat
  nm : Nat
  t : Ty
structure NilB where
  h : Nat
  i : Nat
  nm : Nat
  t : Ty
structure LAnn where
  nilE : List NilE := []
  nilB : List NilB := []
  sameS : List Nat
  modS : List Nat
  sameH : List Nat
  modH : List Nat
  base : Nat
  G : LD → Option (Nd × LTree)
def lookE : List Nat → List AV → Nat → AV → AV
  | k :: ks, v :: vs, n, z => bif Nat.beq n k then v else lookE ks vs n z
  | _, _, _, z => z
def lookH : List (Nat × Blk) → Nat → Option Blk
  | [], _ => none
  | (m, b) :: l, n => bif Nat.beq n m then some b else lookH l n
/-- From a data's value to the state's, with the row that it brings. -/
def unV (nm : Nat) : AV → AV
  | .own _ _ => .row nm
  | .guess _ => .unk
  | v => v
def unR (nm : Nat) : AV → List (Nat × Blk)
  | .own t xs => [(nm, .row t xs)]
  | .guess _ => [(nm, .dead)]
  | _ => []
def unVs : Nat → List AV → List AV
  | _, [] => []
  | n, v :: vs => unV n v :: unVs (n + 1) vs
def unRs : Nat → List AV → List (Nat × Blk)
  | _, [] => []
  | n, v :: vs => unR n v ++ unRs (n + 1) vs
/-- A row among the boxes: its name stays. -/
def rowEntry : List AV → Option OwnD
  | [.agg [.own t xs]] => some ⟨t, xs⟩
  | _ => none
def unBs : Nat → List Nat → List (List AV) → List (Nat × Blk)
  | n, h :: hs, b :: bs => match rowEntry b with
    | some o => (h, .row o.t o.xs) :: unBs (n + 100) hs bs
    | none => (h, .box (unVs n b)) :: (unRs n b ++ unBs (n + 100) hs bs)
  | _, _, _ => []
def zipH : List Nat → List Blk → List (Nat × Blk)
  | h :: hs, b :: bs => (h, b) :: zipH hs bs
  | _, _ => []
def heapL (ann : LAnn) (d : LD) : List (Nat × Blk) := zipH ann.sameH d.blk ++ (unRs ann.base d.vals ++ unBs (ann.base + 10000) ann.modH d.boxes)
def mkHead (nt : Nat) (ann : LAnn) (d : LD) : St :=
  { nt := nt, env := fun k => lookE ann.sameS d.same k (lookE ann.modS (unVs ann.base d.vals) k .unk), heap := lookH (heapL ann d) }
/-- From the state's value to a data's, with the row's name as it is. -/
def toV (h : Nat → Option Blk) (v : AV) : Option AV :=
  match v with
  | .row nm => match h nm with
    | some (.row t xs) => some (.own t xs)
    | _ => none
  | .own _ _ => none
  | .guess _ => none
  | v => some v
def toN (v : AV) (n : Nat) : List (Nat × Nat) :=
  match v with
  | .row nm => [(n, nm)]
  | _ => []
def toVs (h : Nat → Option Blk) : List AV → Option (List AV)
  | [] => some []
  | v :: vs => match toV h v, toVs h vs with
    | some v, some vs => some (v :: vs)
    | _, _ => none
def toNs : Nat → List AV → List (Nat × Nat)
  | _, [] => []
  | n, v :: vs => toN v n ++ toNs (n + 1) vs
def toBs (h : Nat → Option Blk) : List Nat → Option (List (List AV))
  | [] => some []
  | nm :: ns => match h nm with
    | some (.box cs) => match toVs h cs, toBs h ns with
      | some vs, some bs => bif (rowEntry vs).isNone then some (vs :: bs) else none
      | _, _ => none
    | some (.row t xs) => match toBs h ns with
      | some bs => some ([.agg [.own t xs]] :: bs)
      | none => none
    | _ => none
def toBN (h : Nat → Option Blk) : Nat → List Nat → List (Nat × Nat)
  | _, [] => []
  | n, nm :: ns => match h nm with
    | some (.box cs) => toNs n cs ++ toBN h (n + 100) ns
    | some (.row _ _) => toBN h (n + 100) ns
    | _ => []
def getBs (h : Nat → Option Blk) : List Nat → Option (List Blk)
  | [] => some []
  | nm :: ns => match h nm, getBs h ns with
    | some (.row t xs), some bs => some (.row t xs :: bs)
    | some (.box cs), some bs => some (.box cs :: bs)
    | _, _ => none
/-- A box or a row. -/
def Blk.keep : Blk → Bool
  | .box _ => true
  | .row _ _ => true
  | _ => false
def nodupB : List Nat → Bool
  | [] => true
  | x :: xs => !(xs.any (Nat.beq x)) && nodupB xs
def subB (xs ys : List Nat) : Bool := xs.all fun x => ys.any (Nat.beq x)
def blkNames : List Blk → List Nat
  | [] => []
  | .box cs :: bs => AV.names.namesL cs ++ blkNames bs
  | _ :: bs => blkNames bs
def boxNames : List (List AV) → List Nat
  | [] => []
  | b :: bs => AV.names.namesL b ++ boxNames bs
/-- The data at a loop's head, as the state has it. -/
def dataOf (ann : LAnn) (σ : St) : Option LD :=
  let same := ann.sameS.map σ.env
  let vals0 := ann.modS.map σ.env
  match getBs σ.heap ann.sameH, toVs σ.heap vals0, toBs σ.heap ann.modH with
  | some blk, some vals, some boxes =>
    let d : LD := ⟨same, blk, vals, boxes⟩
    let rn := toNs ann.base vals0 ++ toBN σ.heap (ann.base + 10000) ann.modH
    let kept := ann.sameH ++ ann.modH
    bif Nat.blt BR ann.base && (!((rn.map (·.1)).any (Nat.beq BR)) && (disj kept (rn.map (·.1)) && (disj kept (rn.map (·.2)) && (nodupB (rn.map (·.1)) && (nodupB (rn.map (·.2)) && subB (AV.names.namesL same ++ (blkNames blk ++ (AV.names.namesL vals ++ boxNames boxes))) kept)))))
    then some d else none
  | _, _, _ => none
def lookN : List (Nat × Nat) → Nat → Nat
  | [], n => n
  | (c, x) :: l, n => bif Nat.beq n c then x else lookN l n
theorem nodupB_spec : ∀ {l : List Nat}, nodupB l = true → l.Nodup
  | [], _ => List.nodup_nil
  | x :: xs, h => by
    simp only [nodupB, Bool.and_eq_true, Bool.not_eq_true', List.any_eq_false] at h
    refine List.nodup_cons.2 ⟨fun hx => ?_, nodupB_spec h.2⟩
    exact h.1 x hx (by simp)
theorem subB_spec {xs ys : List Nat} (h : subB xs ys = true) : ∀ x ∈ xs, x ∈ ys := by
  intro x hx
  simp only [subB, List.all_eq_true, List.any_eq_true] at h
  obtain ⟨y, hy, he⟩ := h x hx
  have : x = y := Nat.eq_of_beq_eq_true he
  rwa [this]
theorem lookN_mem : ∀ {rn : List (Nat × Nat)} {c x : Nat}, (rn.map (·.1)).Nodup → (c, x) ∈ rn → lookN rn c = x
  | (c', x') :: l, c, x, hn, h => by
    simp only [List.map_cons, List.nodup_cons] at hn
    simp only [lookN]
    by_cases he : c = c'
    · subst he
      rcases List.mem_cons.1 h with h | h
      · simp only [Prod.mk.injEq, true_and] at h; subst h; simp
      · exact absurd (List.mem_map_of_mem (f := (·.1)) h) hn.1
    · rw [nbeq_ne he]
      rcases List.mem_cons.1 h with h | h
      · simp only [Prod.mk.injEq] at h; exact absurd h.1 he
      · exact lookN_mem hn.2 h
theorem lookN_not : ∀ {rn : List (Nat × Nat)} {n : Nat}, n ∉ rn.map (·.1) → lookN rn n = n
  | [], _, _ => rfl
  | (c, x) :: l, n, h => by
    simp only [List.map_cons, List.mem_cons, not_or] at h
    simp only [lookN, nbeq_ne h.1, cond_false]
    exact lookN_not h.2
mutual
theorem renAV_id {ren : Nat → Nat} : ∀ {x : AV}, (∀ n ∈ x.names, ren n = n) → renAV ren x = x
  | .int _ _, _ => rfl
  | .bool _, _ => rfl
  | .lit _, _ => rfl
  | .str _, _ => rfl
  | .undef, _ => rfl
  | .unk, _ => rfl
  | .fn _, _ => rfl
  | .nilS, _ => rfl
  | .empS, _ => rfl
  | .guess _, _ => rfl
  | .clo f cs, h => by simp only [renAV, renL_id (fun n hn => h n hn)]
  | .velt _ _ _, _ => rfl
  | .view _ _, _ => rfl
  | .own _ _, _ => rfl
  | .ptr nm off, h => by simp only [renAV, h nm (by simp [AV.names])]
  | .elt sz nm i off, h => by simp only [renAV, h nm (by simp [AV.names])]
  | .inr _ _, _ => rfl
  | .part sz nm off n, h => by simp only [renAV, h nm (by simp [AV.names])]
  | .row nm, h => by simp only [renAV, h nm (by simp [AV.names])]
  | .agg cs, h => by simp only [renAV, renL_id (fun n hn => h n hn)]
  | .tup cs, h => by simp only [renAV, renL_id (fun n hn => h n hn)]
theorem renL_id {ren : Nat → Nat} : ∀ {xs : List AV}, (∀ n ∈ AV.names.namesL xs, ren n = n) → renAV.renL ren xs = xs
  | [], _ => rfl
  | x :: xs, h => by
    have e1 : renAV ren x = x := renAV_id (fun n hn => h n (by simp [AV.names.namesL, hn]))
    have e2 : renAV.renL ren xs = xs := renL_id (fun n hn => h n (by simp [AV.names.namesL, hn]))
    simp only [renAV.renL, e1, e2]
end
section
variable {σ : St} {h : Nat → Option Blk} {ren : Nat → Nat} {kept : List Nat} {rn : List (Nat × Nat)}
theorem unV_ren {v0 v : AV} {n : Nat} (hv : toV h v0 = some v) (hrn : ∀ p ∈ toN v0 n, ren p.1 = p.2) (hk : ∀ m ∈ v.names, ren m = m) : renAV ren (unV n v) = v0 := by
  unfold toV at hv
  split at hv
  · rename_i nm
    split at hv
    · simp only [Option.some.injEq] at hv
      subst hv
      have := hrn (n, nm) (by simp [toN])
      simp only at this
      simp [unV, renAV, this]
    · simp at hv
  · simp at hv
  · simp at hv
  · rename_i h1 h2 h3
    simp only [Option.some.injEq] at hv
    subst hv
    have : unV n v0 = v0 := by cases v0 <;> first | rfl | exact (h2 _ _ rfl).elim | exact (h3 _ rfl).elim
    rw [this, renAV_id hk]
theorem unV_names {v0 v : AV} {n : Nat} (hv : toV h v0 = some v) : ∀ m ∈ (unV n v).names, m ∈ v.names ∨ ∃ p ∈ toN v0 n, p.1 = m := by
  intro m hm
  unfold toV at hv
  split at hv
  · rename_i nm
    split at hv
    · simp only [Option.some.injEq] at hv
      subst hv
      simp only [unV, AV.names, List.mem_singleton] at hm
      exact .inr ⟨(n, nm), by simp [toN], hm.symm⟩
    · simp at hv
  · simp at hv
  · simp at hv
  · rename_i h1 h2 h3
    simp only [Option.some.injEq] at hv
    subst hv
    have : unV n v0 = v0 := by cases v0 <;> first | rfl | exact (h2 _ _ rfl).elim | exact (h3 _ rfl).elim
    rw [this] at hm
    exact .inl hm
theorem unVs_ren : ∀ {vs0 vs : List AV} {n : Nat}, toVs h vs0 = some vs → (∀ p ∈ toNs n vs0, ren p.1 = p.2) → (∀ m ∈ AV.names.namesL vs, ren m = m) → renAV.renL ren (unVs n vs) = vs0
  | [], vs, n, hv, _, _ => by simp only [toVs, Option.some.injEq] at hv; subst hv; rfl
  | v0 :: vs0, vs, n, hv, hrn, hk => by
    unfold toVs at hv
    split at hv
    · rename_i v vs' h1 h2
      simp only [Option.some.injEq] at hv
      subst hv
      simp only [unVs, renAV.renL]
      rw [unV_ren h1 (fun p hp => hrn p (by simp [toNs, hp])) (fun m hm => hk m (by simp [AV.names.namesL, hm])), unVs_ren h2 (fun p hp => hrn p (by simp [toNs, hp])) (fun m hm => hk m (by simp [AV.names.namesL, hm]))]
    · simp at hv
theorem unVs_names : ∀ {vs0 vs : List AV} {n : Nat}, toVs h vs0 = some vs → ∀ m ∈ AV.names.namesL (unVs n vs), m ∈ AV.names.namesL vs ∨ ∃ p ∈ toNs n vs0, p.1 = m
  | [], vs, n, hv, m, hm => by simp only [toVs, Option.some.injEq] at hv; subst hv; simp [unVs, AV.names.namesL] at hm
  | v0 :: vs0, vs, n, hv, m, hm => by
    unfold toVs at hv
    split at hv
    · rename_i v vs' h1 h2
      simp only [Option.some.injEq] at hv
      subst hv
      simp only [unVs, AV.names.namesL, List.mem_append] at hm ⊢
      rcases hm with hm | hm
      · rcases unV_names h1 m hm with h | ⟨p, hp, he⟩
        · exact .inl (.inl h)
        · exact .inr ⟨p, by simp [toNs, hp], he⟩
      · rcases unVs_names h2 m hm with h | ⟨p, hp, he⟩
        · exact .inl (.inr h)
        · exact .inr ⟨p, by simp [toNs, hp], he⟩
    · simp at hv
theorem unRs_mem : ∀ {vs0 vs : List AV} {n c : Nat} {B : Blk}, toVs h vs0 = some vs → (c, B) ∈ unRs n vs → ∃ nm t xs, (c, nm) ∈ toNs n vs0 ∧ B = .row t xs ∧ h nm = some (.row t xs)
  | [], vs, n, c, B, hv, hm => by simp only [toVs, Option.some.injEq] at hv; subst hv; simp [unRs] at hm
  | v0 :: vs0, vs, n, c, B, hv, hm => by
    unfold toVs at hv
    split at hv
    · rename_i v vs' h1 h2
      simp only [Option.some.injEq] at hv
      subst hv
      simp only [unRs, List.mem_append] at hm
      rcases hm with hm | hm
      · unfold toV at h1
        split at h1
        · rename_i nm
          split at h1
          · rename_i t xs hnm
            simp only [Option.some.injEq] at h1
            subst h1
            simp only [unR, List.mem_singleton, Prod.mk.injEq] at hm
            exact ⟨nm, t, xs, by simp [toNs, toN, hm.1], hm.2, hnm⟩
          · simp at h1
        · simp at h1
        · simp at h1
        · rename_i g1 g2 g3
          simp only [Option.some.injEq] at h1
          subst h1
          have : unR n v0 = [] := by cases v0 <;> first | rfl | exact (g2 _ _ rfl).elim | exact (g3 _ rfl).elim
          rw [this] at hm
          simp at hm
      · obtain ⟨nm, t, xs, g1, g2, g3⟩ := unRs_mem h2 hm
        exact ⟨nm, t, xs, by simp [toNs, g1], g2, g3⟩
    · simp at hv
theorem unRs_has : ∀ {vs0 vs : List AV} {n : Nat} {p : Nat × Nat}, toVs h vs0 = some vs → p ∈ toNs n vs0 → ∃ B, (p.1, B) ∈ unRs n vs
  | [], vs, n, p, hv, hm => by simp [toNs] at hm
  | v0 :: vs0, vs, n, p, hv, hm => by
    unfold toVs at hv
    split at hv
    · rename_i v vs' h1 h2
      simp only [Option.some.injEq] at hv
      subst hv
      simp only [toNs, List.mem_append] at hm
      rcases hm with hm | hm
      · unfold toV at h1
        split at h1
        · rename_i nm
          split at h1
          · rename_i t xs hnm
            simp only [Option.some.injEq] at h1
            subst h1
            simp only [toN, List.mem_singleton] at hm
            subst hm
            exact ⟨.row t xs, by simp [unRs, unR]⟩
          · simp at h1
        · simp at h1
        · simp at h1
        · rename_i g1 g2 g3
          have : toN v0 n = [] := by cases v0 <;> first | rfl | exact (g1 _ rfl).elim
          rw [this] at hm
          simp at hm
      · obtain ⟨B, hB⟩ := unRs_has h2 hm
        exact ⟨B, by simp [unRs, hB]⟩
    · simp at hv
theorem unBs_mem : ∀ {hs : List Nat} {bs : List (List AV)} {n c : Nat} {B : Blk}, toBs h hs = some bs → (c, B) ∈ unBs n hs bs →
    (∃ nm t xs, (c, nm) ∈ toBN h n hs ∧ B = .row t xs ∧ h nm = some (.row t xs)) ∨ (c ∈ hs ∧ ∃ t xs, B = .row t xs ∧ h c = some (.row t xs)) ∨ (c ∈ hs ∧ ∃ cs0 b k, h c = some (.box cs0) ∧ toVs h cs0 = some b ∧ B = .box (unVs k b) ∧ (∀ p ∈ toNs k cs0, p ∈ toBN h n hs) ∧ ∀ m ∈ AV.names.namesL b, m ∈ boxNames bs)
  | [], bs, n, c, B, hv, hm => by simp only [toBs, Option.some.injEq] at hv; subst hv; simp [unBs] at hm
  | nm :: hs, bs, n, c, B, hv, hm => by
    unfold toBs at hv
    split at hv
    · rename_i cs hcs
      split at hv
      · rename_i vs bs' h1 h2
        cases hre : rowEntry vs with
        | some o => rw [hre] at hv; simp at hv
        | none =>
        rw [hre] at hv
        simp only [Option.isNone_none, cond_true, Option.some.injEq] at hv
        subst hv
        simp only [unBs, hre, List.mem_cons, List.mem_append, Prod.mk.injEq] at hm
        rcases hm with ⟨rfl, rfl⟩ | hm | hm
        · exact .inr (.inr ⟨by simp, cs, vs, n, hcs, h1, rfl, fun p hp => by simp [toBN, hcs, hp], fun m hm => by simp [boxNames, hm]⟩)
        · obtain ⟨m, t, xs, g1, g2, g3⟩ := unRs_mem h1 hm
          exact .inl ⟨m, t, xs, by simp [toBN, hcs, g1], g2, g3⟩
        · rcases unBs_mem h2 hm with ⟨m, t, xs, g1, g2, g3⟩ | ⟨g0, t, xs, g1, g2⟩ | ⟨g0, cs0, b, k, g1, g2, g3, g4, g5⟩
          · exact .inl ⟨m, t, xs, by simp [toBN, hcs, g1], g2, g3⟩
          · exact .inr (.inl ⟨by simp [g0], t, xs, g1, g2⟩)
          · exact .inr (.inr ⟨by simp [g0], cs0, b, k, g1, g2, g3, fun p hp => by simp [toBN, hcs, g4 p hp], fun m hm => by simp [boxNames, g5 m hm]⟩)
      · simp at hv
    · rename_i t xs hcs
      split at hv
      · rename_i bs' h2
        simp only [Option.some.injEq] at hv
        subst hv
        simp only [unBs, rowEntry, List.mem_cons, Prod.mk.injEq] at hm
        rcases hm with ⟨rfl, rfl⟩ | hm
        · exact .inr (.inl ⟨by simp, t, xs, rfl, hcs⟩)
        · rcases unBs_mem h2 hm with ⟨m, t', xs', g1, g2, g3⟩ | ⟨g0, t', xs', g1, g2⟩ | ⟨g0, cs0, b, k, g1, g2, g3, g4, g5⟩
          · exact .inl ⟨m, t', xs', by simp [toBN, hcs, g1], g2, g3⟩
          · exact .inr (.inl ⟨by simp [g0], t', xs', g1, g2⟩)
          · exact .inr (.inr ⟨by simp [g0], cs0, b, k, g1, g2, g3, fun p hp => by simp [toBN, hcs, g4 p hp], fun m hm => by simp [boxNames, g5 m hm]⟩)
      · simp at hv
    · simp at hv
theorem unBs_has : ∀ {hs : List Nat} {bs : List (List AV)} {n : Nat}, toBs h hs = some bs → (∀ c ∈ hs, ∃ B, (c, B) ∈ unBs n hs bs) ∧ ∀ p ∈ toBN h n hs, ∃ B, (p.1, B) ∈ unBs n hs bs
  | [], bs, n, hv => ⟨by simp, by simp [toBN]⟩
  | nm :: hs, bs, n, hv => by
    unfold toBs at hv
    split at hv
    · rename_i cs hcs
      split at hv
      · rename_i vs bs' h1 h2
        cases hre : rowEntry vs with
        | some o => rw [hre] at hv; simp at hv
        | none =>
        rw [hre] at hv
        simp only [Option.isNone_none, cond_true, Option.some.injEq] at hv
        subst hv
        obtain ⟨g1, g2⟩ := unBs_has (n := n + 100) h2
        refine ⟨fun c hc => ?_, fun p hp => ?_⟩
        · rcases List.mem_cons.1 hc with rfl | hc
          · exact ⟨_, by simp [unBs, hre]; exact .inl rfl⟩
          · obtain ⟨B, hB⟩ := g1 c hc
            exact ⟨B, by simp [unBs, hre, hB]⟩
        · simp only [toBN, hcs, List.mem_append] at hp
          rcases hp with hp | hp
          · obtain ⟨B, hB⟩ := unRs_has h1 hp
            exact ⟨B, by simp [unBs, hre, hB]⟩
          · obtain ⟨B, hB⟩ := g2 p hp
            exact ⟨B, by simp [unBs, hre, hB]⟩
      · simp at hv
    · rename_i t xs hcs
      split at hv
      · rename_i bs' h2
        simp only [Option.some.injEq] at hv
        subst hv
        obtain ⟨g1, g2⟩ := unBs_has (n := n + 100) h2
        refine ⟨fun c hc => ?_, fun p hp => ?_⟩
        · rcases List.mem_cons.1 hc with rfl | hc
          · exact ⟨_, by simp [unBs, rowEntry]; exact .inl rfl⟩
          · obtain ⟨B, hB⟩ := g1 c hc
            exact ⟨B, by simp [unBs, rowEntry, hB]⟩
        · simp only [toBN, hcs] at hp
          obtain ⟨B, hB⟩ := g2 p hp
          exact ⟨B, by simp [unBs, rowEntry, hB]⟩
      · simp at hv
    · simp at hv
theorem getBs_mem : ∀ {hs : List Nat} {bs : List Blk}, getBs h hs = some bs → (∀ c B, (c, B) ∈ zipH hs bs → c ∈ hs ∧ h c = some B ∧ B.keep = true ∧ ∀ cs, B = .box cs → ∀ m ∈ AV.names.namesL cs, m ∈ blkNames bs) ∧ ∀ c ∈ hs, ∃ B, (c, B) ∈ zipH hs bs
  | [], bs, hv => by simp only [getBs, Option.some.injEq] at hv; subst hv; exact ⟨by simp [zipH], by simp⟩
  | nm :: hs, bs, hv => by
    unfold getBs at hv
    split at hv
    · rename_i t xs bs' h1 h2
      simp only [Option.some.injEq] at hv
      subst hv
      obtain ⟨g1, g2⟩ := getBs_mem h2
      refine ⟨fun c B hc => ?_, fun c hc => ?_⟩
      · simp only [zipH, List.mem_cons, Prod.mk.injEq] at hc
        rcases hc with ⟨rfl, rfl⟩ | hc
        · exact ⟨by simp, h1, rfl, fun cs hcs => by simp at hcs⟩
        · obtain ⟨k1, k2, k3, k4⟩ := g1 c B hc
          exact ⟨by simp [k1], k2, k3, fun cs hcs m hm => by simp [blkNames, k4 cs hcs m hm]⟩
      · rcases List.mem_cons.1 hc with rfl | hc
        · exact ⟨_, by simp [zipH]; exact .inl rfl⟩
        · obtain ⟨B, hB⟩ := g2 c hc
          exact ⟨B, by simp [zipH, hB]⟩
    · rename_i cs bs' h1 h2
      simp only [Option.some.injEq] at hv
      subst hv
      obtain ⟨g1, g2⟩ := getBs_mem h2
      refine ⟨fun c B hc => ?_, fun c hc => ?_⟩
      · simp only [zipH, List.mem_cons, Prod.mk.injEq] at hc
        rcases hc with ⟨rfl, rfl⟩ | hc
        · exact ⟨by simp, h1, rfl, fun cs' hcs m hm => by simp only [Blk.box.injEq] at hcs; subst hcs; simp [blkNames, hm]⟩
        · obtain ⟨k1, k2, k3, k4⟩ := g1 c B hc
          exact ⟨by simp [k1], k2, k3, fun cs hcs m hm => by simp [blkNames, k4 cs hcs m hm]⟩
      · rcases List.mem_cons.1 hc with rfl | hc
        · exact ⟨_, by simp [zipH]; exact .inl rfl⟩
        · obtain ⟨B, hB⟩ := g2 c hc
          exact ⟨B, by simp [zipH, hB]⟩
    · simp at hv
theorem lookH_mem : ∀ {l : List (Nat × Blk)} {n : Nat} {B : Blk}, lookH l n = some B → (n, B) ∈ l
  | [], _, _, h => by simp [lookH] at h
  | (m, b) :: l, n, B, h => by
    simp only [lookH] at h
    by_cases he : n = m
    · subst he
      simp only [Nat.beq_refl, cond_true, Option.some.injEq] at h
      subst h; simp
    · rw [nbeq_ne he] at h
      simp [lookH_mem h]
theorem lookH_has : ∀ {l : List (Nat × Blk)} {n : Nat} {B : Blk}, (n, B) ∈ l → lookH l n ≠ none
  | (m, b) :: l, n, B, h => by
    simp only [lookH]
    by_cases he : n = m
    · subst he; simp
    · rw [nbeq_ne he]
      rcases List.mem_cons.1 h with h | h
      · simp only [Prod.mk.injEq] at h; exact absurd h.1 he
      · exact lookH_has h
theorem lookE_map {env : Nat → AV} {z : AV} : ∀ (ks : List Nat) (n : Nat), lookE ks (ks.map env) n z = if n ∈ ks then env n else z
  | [], n => by simp [lookE]
  | k :: ks, n => by
    simp only [lookE, List.map_cons, List.mem_cons]
    by_cases he : n = k
    · subst he; simp
    · rw [nbeq_ne he, cond_false, lookE_map ks n]; simp [he]
theorem lookE_get {z : AV} : ∀ (ks : List Nat) (vs : List AV) (n : Nat), vs.length = ks.length → (lookE ks vs n z = z ∧ n ∉ ks) ∨ ∃ i : Nat, ks[i]? = some n ∧ vs[i]? = some (lookE ks vs n z)
  | [], [], n, _ => .inl ⟨rfl, by simp⟩
  | [], _ :: _, n, h => by simp at h
  | _ :: _, [], n, h => by simp at h
  | k :: ks, v :: vs, n, h => by
    simp only [lookE]
    by_cases he : n = k
    · subst he; exact .inr ⟨0, by simp⟩
    · rw [nbeq_ne he]
      rcases lookE_get ks vs n (by simpa using h) with ⟨h1, h2⟩ | ⟨i, h1, h2⟩
      · exact .inl ⟨h1, by simp [he, h2]⟩
      · exact .inr ⟨i + 1, by simpa using h1, by simpa using h2⟩
theorem toVs_length : ∀ {vs0 vs : List AV}, toVs h vs0 = some vs → vs.length = vs0.length
  | [], vs, hv => by simp only [toVs, Option.some.injEq] at hv; subst hv; rfl
  | v0 :: vs0, vs, hv => by
    unfold toVs at hv
    split at hv
    · rename_i v vs' h1 h2
      simp only [Option.some.injEq] at hv
      subst hv
      simp [toVs_length h2]
    · simp at hv
theorem unVs_length : ∀ (n : Nat) (vs : List AV), (unVs n vs).length = vs.length
  | _, [] => rfl
  | n, v :: vs => by simp [unVs, unVs_length (n + 1) vs]
theorem renL_get {ren : Nat → Nat} : ∀ {xs ys : List AV} {i : Nat} {x : AV}, renAV.renL ren xs = ys → xs[i]? = some x → ys[i]? = some (renAV ren x)
  | [], _, i, x, _, h => by simp at h
  | y :: xs, _, i, x, h, h' => by
    subst h
    cases i with
    | zero => simp only [List.getElem?_cons_zero, Option.some.injEq] at h'; subst h'; rfl
    | succ i => simpa [renAV.renL] using renL_get rfl (by simpa using h')
theorem namesL_get : ∀ {xs : List AV} {i : Nat} {x : AV} {m : Nat}, xs[i]? = some x → m ∈ x.names → m ∈ AV.names.namesL xs
  | [], i, x, m, h, _ => by simp at h
  | y :: xs, 0, x, m, h, hm => by simp only [List.getElem?_cons_zero, Option.some.injEq] at h; subst h; simp [AV.names.namesL, hm]
  | y :: xs, i + 1, x, m, h, hm => by simp only [AV.names.namesL, List.mem_append]; exact .inr (namesL_get (by simpa using h) hm)
theorem dataOf_base {ann : LAnn} {d : LD} (hd : dataOf ann σ = some d) : BR < ann.base := by
  unfold dataOf at hd
  simp only at hd
  split at hd
  · cases hb : Nat.blt BR ann.base with
    | true => exact Nat.blt_eq ▸ hb
    | false => rw [hb] at hd; simp at hd
  · simp at hd
theorem dataOf_sub {ann : LAnn} {d : LD} (hd : dataOf ann σ = some d) : ∃ ren, Sub σ (mkHead σ.nt ann d) ren := by
  unfold dataOf at hd
  simp only at hd
  split at hd
  · rename_i blk vals boxes hblk hvals hboxes
    generalize hrn : toNs ann.base (ann.modS.map σ.env) ++ toBN σ.heap (ann.base + 10000) ann.modH = rn at hd
    generalize hkept : ann.sameH ++ ann.modH = kept at hd
    cases hc : (Nat.blt BR ann.base && (!((rn.map (·.1)).any (Nat.beq BR)) && (disj kept (rn.map (·.1)) && (disj kept (rn.map (·.2)) && (nodupB (rn.map (·.1)) && (nodupB (rn.map (·.2)) && subB (AV.names.namesL (ann.sameS.map σ.env) ++ (blkNames blk ++ (AV.names.namesL vals ++ boxNames boxes))) kept)))))) <;> rw [hc] at hd <;> simp only [cond_true, cond_false, Option.some.injEq, reduceCtorEq] at hd
    subst hd
    simp only [Bool.and_eq_true] at hc
    obtain ⟨_, hc0, hc1, hc2, hc3, hc4, hc5⟩ := hc
    have hc3 := nodupB_spec hc3
    have hc4 := nodupB_spec hc4
    have hc5 := subB_spec hc5
    have hkeep : ∀ k ∈ kept, lookN rn k = k := fun k hk => lookN_not fun h => disj_spec hc1 hk h
    have hreal : ∀ p ∈ rn, lookN rn p.1 = p.2 := fun p hp => lookN_mem hc3 hp
    have hnames : ∀ m, (m ∈ AV.names.namesL (ann.sameS.map σ.env) ∨ m ∈ blkNames blk ∨ m ∈ AV.names.namesL vals ∨ m ∈ boxNames boxes) → m ∈ kept := fun m hm => hc5 m (by simpa using hm)
    have hrnV : ∀ p ∈ toNs ann.base (ann.modS.map σ.env), p ∈ rn := fun p hp => by rw [← hrn]; simp [hp]
    have hrnB : ∀ p ∈ toBN σ.heap (ann.base + 10000) ann.modH, p ∈ rn := fun p hp => by rw [← hrn]; simp [hp]
    obtain ⟨hb1, hb2⟩ := getBs_mem hblk
    obtain ⟨hbs1, hbs2⟩ := unBs_has (n := ann.base + 10000) hboxes
    have hdom : ∀ m, (m ∈ kept ∨ ∃ p ∈ rn, p.1 = m) → (mkHead σ.nt ann ⟨ann.sameS.map σ.env, blk, vals, boxes⟩).heap m ≠ none := by
      intro m hm
      have : ∃ B, (m, B) ∈ heapL ann ⟨ann.sameS.map σ.env, blk, vals, boxes⟩ := by
        rcases hm with hm | ⟨p, hp, rfl⟩
        · rw [← hkept, List.mem_append] at hm
          rcases hm with hm | hm
          · obtain ⟨B, hB⟩ := hb2 m hm
            exact ⟨B, by simp [heapL, hB]⟩
          · obtain ⟨B, hB⟩ := hbs1 m hm
            exact ⟨B, by simp [heapL, hB]⟩
        · rw [← hrn, List.mem_append] at hp
          rcases hp with hp | hp
          · obtain ⟨B, hB⟩ := unRs_has hvals hp
            exact ⟨B, by simp [heapL, hB]⟩
          · obtain ⟨B, hB⟩ := hbs2 p hp
            exact ⟨B, by simp [heapL, hB]⟩
      obtain ⟨B, hB⟩ := this
      exact lookH_has hB
    have hmem : ∀ n B, (mkHead σ.nt ann ⟨ann.sameS.map σ.env, blk, vals, boxes⟩).heap n = some B →
        (n ∈ kept ∧ σ.heap n = some B ∧ B.keep = true ∧ ∀ cs, B = .box cs → ∀ m ∈ AV.names.namesL cs, m ∈ kept) ∨ (∃ nm t xs, (n, nm) ∈ rn ∧ B = .row t xs ∧ σ.heap nm = some (.row t xs)) ∨
        (n ∈ kept ∧ ∃ cs0 b k, σ.heap n = some (.box cs0) ∧ toVs σ.heap cs0 = some b ∧ B = .box (unVs k b) ∧ (∀ p ∈ toNs k cs0, p ∈ rn) ∧ ∀ m ∈ AV.names.namesL b, m ∈ kept) := by
      intro n B hB
      have hB := lookH_mem hB
      simp only [heapL, List.mem_append] at hB
      rcases hB with hB | hB | hB
      · obtain ⟨g1, g2, g3, g4⟩ := hb1 n B hB
        exact .inl ⟨by rw [← hkept]; simp [g1], g2, g3, fun cs hcs m hm => hnames m (.inr (.inl (g4 cs hcs m hm)))⟩
      · obtain ⟨nm, t, xs, g1, g2, g3⟩ := unRs_mem hvals hB
        exact .inr (.inl ⟨nm, t, xs, hrnV _ g1, g2, g3⟩)
      · rcases unBs_mem hboxes hB with ⟨nm, t, xs, g1, g2, g3⟩ | ⟨g0, t, xs, g1, g2⟩ | ⟨g0, cs0, b, k, g1, g2, g3, g4, g5⟩
        · exact .inr (.inl ⟨nm, t, xs, hrnB _ g1, g2, g3⟩)
        · subst g1
          exact .inl ⟨by rw [← hkept]; simp [g0], g2, rfl, fun cs hcs => by simp at hcs⟩
        · exact .inr (.inr ⟨by rw [← hkept]; simp [g0], cs0, b, k, g1, g2, g3, fun p hp => hrnB p (g4 p hp), fun m hm => hnames m (.inr (.inr (.inr (g5 m hm))))⟩)
    have hbr0 : BR ∉ rn.map (·.1) := fun hx => by
      simp only [Bool.not_eq_true', List.any_eq_false] at hc0
      exact hc0 BR hx (by simp)
    refine ⟨lookN rn, rfl, fun _ => lookN_not hbr0, fun k => ?_, fun n m hn hm he => ?_, fun n B hB => ?_⟩
    · simp only [mkHead, lookE_map]
      by_cases hk : k ∈ ann.sameS
      · rw [if_pos hk]
        have hsub : ∀ m ∈ (σ.env k).names, m ∈ kept := fun m hm => hnames m (.inl (by
          obtain ⟨i, hi⟩ := List.getElem?_of_mem hk
          exact namesL_get (i := i) (by simp [hi]) hm))
        exact .inr ⟨renAV_id fun m hm => hkeep m (hsub m hm), fun m hm => hdom m (.inl (hsub m hm))⟩
      · rw [if_neg hk]
        rcases lookE_get ann.modS (unVs ann.base vals) k (z := .unk) (by rw [unVs_length, toVs_length hvals]; simp) with ⟨h1, _⟩ | ⟨i, h1, h2⟩
        · exact .inl h1
        · right
          have hren := unVs_ren (ren := lookN rn) (n := ann.base) hvals (fun p hp => hreal p (hrnV p hp)) (fun m hm => hkeep m (hnames m (.inr (.inr (.inl hm)))))
          have h3 := renL_get hren h2
          simp only [List.getElem?_map, h1, Option.map_some, Option.some.injEq] at h3
          refine ⟨h3.symm, fun m hm => hdom m ?_⟩
          rcases unVs_names hvals m (namesL_get h2 hm) with h | ⟨p, hp, he⟩
          · exact .inl (hnames m (.inr (.inr (.inl h))))
          · exact .inr ⟨p, hrnV p hp, he⟩
    · have key : ∀ n, (mkHead σ.nt ann ⟨ann.sameS.map σ.env, blk, vals, boxes⟩).heap n ≠ none → n ∈ kept ∨ ∃ nm, (n, nm) ∈ rn := fun n hn => by
        cases hB : (mkHead σ.nt ann ⟨ann.sameS.map σ.env, blk, vals, boxes⟩).heap n with
        | none => exact absurd hB hn
        | some B =>
          rcases hmem n B hB with ⟨h, _⟩ | ⟨nm, _, _, h, _⟩ | ⟨h, _⟩
          · exact .inl h
          · exact .inr ⟨nm, h⟩
          · exact .inl h
      rcases key n hn with h1 | ⟨x, h1⟩ <;> rcases key m hm with h2 | ⟨y, h2⟩
      · rwa [hkeep n h1, hkeep m h2] at he
      · have e2 : lookN rn m = y := hreal (m, y) h2
        rw [hkeep n h1, e2] at he
        exact (disj_spec hc2 h1 (he ▸ List.mem_map_of_mem (f := (·.2)) h2)).elim
      · have e1 : lookN rn n = x := hreal (n, x) h1
        rw [hkeep m h2, e1] at he
        exact (disj_spec hc2 h2 (he ▸ List.mem_map_of_mem (f := (·.2)) h1)).elim
      · have e1 : lookN rn n = x := hreal (n, x) h1
        have e2 : lookN rn m = y := hreal (m, y) h2
        rw [e1, e2] at he
        subst he
        have inj : ∀ (l : List (Nat × Nat)), (l.map (·.2)).Nodup → ∀ {n m x : Nat}, (n, x) ∈ l → (m, x) ∈ l → n = m := by
          intro l
          induction l with
          | nil => intro _ n m x h; simp at h
          | cons p l ih =>
            intro hn n m x h1 h2
            simp only [List.map_cons, List.nodup_cons] at hn
            rcases List.mem_cons.1 h1 with h1 | h1 <;> rcases List.mem_cons.1 h2 with h2 | h2
            · rw [← h1] at h2; simp only [Prod.mk.injEq, and_true] at h2; exact h2.symm
            · exact absurd (by rw [← h1]; exact List.mem_map_of_mem (f := (·.2)) h2) hn.1
            · exact absurd (by rw [← h2]; exact List.mem_map_of_mem (f := (·.2)) h1) hn.1
            · exact ih hn.2 h1 h2
        exact inj rn hc4 h1 h2
    · rcases hmem n B hB with ⟨h1, h2, h3, h4⟩ | ⟨nm, t, xs, h1, h2, h3⟩ | ⟨h0, cs0, b, k, h1, h2, h3, h4, h5⟩
      · rw [hkeep n h1]
        cases B with
        | dead => simp [Blk.keep] at h3
        | hole t e xs i off d => simp [Blk.keep] at h3
        | row t xs => exact .inl ⟨t, xs, rfl, h2⟩
        | box cs => exact .inr ⟨cs, rfl, by rw [h2, renL_id fun m hm => hkeep m (h4 cs rfl m hm)], fun m hm => hdom m (.inl (h4 cs rfl m hm))⟩
      · have e : lookN rn n = nm := hreal (n, nm) h1
        exact .inl ⟨t, xs, h2, by rw [e]; exact h3⟩
      · refine .inr ⟨_, h3, ?_, fun m hm => hdom m ?_⟩
        · rw [hkeep n h0, h1, unVs_ren h2 (fun p hp => hreal p (h4 p hp)) (fun m hm => hkeep m (h5 m hm))]
        · rcases unVs_names h2 m hm with h | ⟨p, hp, he⟩
          · exact .inl (h5 m h)
          · exact .inr ⟨p, h4 p hp, he⟩
  · simp at hd
end
theorem lookE_const : ∀ (ks : List Nat) (vs : List AV) (n : Nat), (∃ v, ∀ z, lookE ks vs n z = v) ∨ ∀ z, lookE ks vs n z = z
  | k :: ks, v :: vs, n => by
    simp only [lookE]
    cases Nat.beq n k with
    | true => exact .inl ⟨v, fun _ => rfl⟩
    | false => exact lookE_const ks vs n
  | [], _, _ => .inr fun _ => rfl
  | _ :: _, [], _ => .inr fun _ => rfl
/-! ### a test's value known or not: at a loop's head it is a test's value -/
def AV.nrm : AV → AV
  | .lit b => .bool b
  | x => x
def Blk.nrm : Blk → Blk
  | .box cs => .box (cs.map AV.nrm)
  | b => b
/-- The same; a row of rows with a hole is left. -/
def nrmH (h : Nat → Option Blk) : AV → AV
  | .row nm => match h nm with
    | some (.hole _ _ _ _ _ _) => .unk
    | _ => .row nm
  | x => x.nrm
def nrmSt0 (ann : LAnn) (σ : St) : St :=
  { nt := σ.nt, env := fun k => bif ann.modS.any (Nat.beq k) then nrmH σ.heap (σ.env k) else σ.env k,
    heap := fun n => bif ann.modH.any (Nat.beq n) then (match σ.heap n with | some B => some B.nrm | none => none) else σ.heap n }
theorem nrm_live (B : Blk) : B.nrm.live = B.live := by cases B <;> rfl
theorem Den.nrm {c : Cx} {x : AV} {v : Value} (h : Den c x v) : Den c x.nrm v := by
  cases x <;> exact h
theorem Den.nrmH {c : Cx} {h : Nat → Option Blk} {x : AV} {v : Value} (hd : Den c x v) : Den c (Sx.nrmH h x) v := by
  unfold Sx.nrmH
  split
  · split
    · trivial
    · exact hd
  · exact hd.nrm
theorem DenL.nrm {c : Cx} : ∀ {xs : List AV} {vs : List Value}, DenL c xs vs → DenL c (xs.map AV.nrm) vs
  | [], _, h => h
  | x :: xs, _, h => by
    obtain ⟨v, vs', rfl, h1, h2⟩ := h
    exact ⟨v, vs', rfl, h1.nrm, h2.nrm⟩
theorem BlkDen.nrm {c : Cx} {base : Base} {v : Value} {B : Blk} (h : BlkDen c base v B) : BlkDen c base v B.nrm := by
  cases B with
  | box cs =>
    obtain ⟨b, vs, ty, h1, h2, h3, h4⟩ := h
    exact ⟨b, vs, ty, h1, h2, h3, h4.nrm⟩
  | row t xs => exact h
  | dead => exact h
  | hole t e xs i off d => exact h
theorem nrm_heap {ann : LAnn} {σ : St} {n : Nat} {B' : Blk} (h : (nrmSt0 ann σ).heap n = some B') : ∃ B, σ.heap n = some B ∧ (B' = B ∨ B' = B.nrm) ∧ B'.live = B.live := by
  simp only [nrmSt0] at h
  cases hc : ann.modH.any (Nat.beq n) with
  | false => rw [hc] at h; simp only [cond_false] at h; exact ⟨B', h, .inl rfl, rfl⟩
  | true =>
    rw [hc] at h
    simp only [cond_true] at h
    cases hB : σ.heap n with
    | none => rw [hB] at h; simp at h
    | some B =>
      rw [hB] at h
      simp only [Option.some.injEq] at h
      subst h
      exact ⟨B, rfl, .inr rfl, nrm_live B⟩
theorem nrm_heap' {ann : LAnn} {σ : St} {n : Nat} {B : Blk} (h : σ.heap n = some B) : ∃ B', (nrmSt0 ann σ).heap n = some B' ∧ B'.live = B.live := by
  simp only [nrmSt0, h]
  cases ann.modH.any (Nat.beq n) with
  | false => exact ⟨B, rfl, rfl⟩
  | true => exact ⟨B.nrm, rfl, nrm_live B⟩
theorem Rep.nrm0 {base : Base} {w0 w : World} {σ : St} {a : Act} (ann : LAnn) (h : Rep base w0 σ a w) : Rep base w0 (nrmSt0 ann σ) a w := by
  obtain ⟨h1, h2, h3, ref, h⟩ := h
  have hle : (cxOf base σ w ref).le (cxOf base (nrmSt0 ann σ) w ref) :=
    ⟨fun n ⟨B, hB⟩ => (nrm_heap' hB).imp fun _ h => h.1, fun _ _ => rfl, fun b hb => ⟨hb.1, hb.2.1, fun n B' hB' hl => by
      obtain ⟨B, g1, _, g3⟩ := nrm_heap hB'
      exact hb.2.2 n B g1 (g3 ▸ hl)⟩, fun _ _ _ => rfl⟩
  refine ⟨h1, h2, h3, ref, h.size, fun k => ?_, fun n B' hB' => ?_, fun n m B B' b hB hl hB' hl' e1 e2 => ?_, h.le, fun u hu hx => h.lent u hu fun hy => hx (by
    cases hB : (nrmSt0 ann σ).heap BR with
    | none => rfl
    | some B => obtain ⟨B0, g, _⟩ := nrm_heap hB; rw [hy] at g; simp at g)⟩
  · have hd := Den.mono hle (h.env k)
    show Den _ (bif ann.modS.any (Nat.beq k) then Sx.nrmH σ.heap (σ.env k) else σ.env k) _
    cases ann.modS.any (Nat.beq k) with
    | false => exact hd
    | true => exact hd.nrmH
  · obtain ⟨B, g1, g2, _⟩ := nrm_heap hB'
    have hd := BlkDen.mono hle (fun _ _ => rfl) (h.blk n B g1)
    rcases g2 with rfl | rfl
    · exact hd
    · exact hd.nrm
  · obtain ⟨C, g1, _, g3⟩ := nrm_heap hB
    obtain ⟨C', g1', _, g3'⟩ := nrm_heap hB'
    exact h.inj n m C C' b g1 (g3 ▸ hl) g1' (g3' ▸ hl') e1 e2
/-! ### nil, where a row is meant, is a row without elements -/
def promE (e : NilE) (σ : St) : St :=
  match σ.env e.k, σ.heap e.nm, (Nat.beq e.nm BR || e.t.isDeep) with
  | .nilS, none, false => { nt := σ.nt, env := fun k => bif Nat.beq k e.k then .row e.nm else σ.env k, heap := fun n => bif Nat.beq n e.nm then some (.row e.t []) else σ.heap n }
  | _, _, _ => σ
def promB (e : NilB) (σ : St) : St :=
  match σ.heap e.h, σ.heap e.nm, (Nat.beq e.nm BR || e.t.isDeep) with
  | some (.box cs), none, false => match cs[e.i]? with
    | some .nilS => { nt := σ.nt, env := σ.env, heap := fun n => bif Nat.beq n e.nm then some (.row e.t []) else bif Nat.beq n e.h then some (.box (cs.set e.i (.row e.nm))) else σ.heap n }
    | _ => σ
  | _, _, _ => σ
def promEs : List NilE → St → St
  | [], σ => σ
  | e :: l, σ => promEs l (promE e σ)
def promBs : List NilB → St → St
  | [], σ => σ
  | e :: l, σ => promBs l (promB e σ)
def nrmSt (ann : LAnn) (σ : St) : St := nrmSt0 ann (promBs ann.nilB (promEs ann.nilE σ))
section
variable {base : Base} {w0 w : World} {σ : St} {a : Act} {ref : Nat → Value}
theorem promE_nt (e : NilE) (σ : St) : (promE e σ).nt = σ.nt := by unfold promE; split <;> rfl
theorem promB_nt (e : NilB) (σ : St) : (promB e σ).nt = σ.nt := by
  unfold promB
  split
  · split <;> rfl
  · rfl
theorem promEs_nt : ∀ (l : List NilE) (σ : St), (promEs l σ).nt = σ.nt
  | [], _ => rfl
  | e :: l, σ => (promEs_nt l _).trans (promE_nt e σ)
theorem promBs_nt : ∀ (l : List NilB) (σ : St), (promBs l σ).nt = σ.nt
  | [], _ => rfl
  | e :: l, σ => (promBs_nt l _).trans (promB_nt e σ)
theorem nrmSt_nt (ann : LAnn) (σ : St) : (nrmSt ann σ).nt = σ.nt := (promBs_nt _ _).trans (promEs_nt _ _)
/-- A name for no memory. -/
theorem RepAt.nilRow {nm : Nat} {t : Ty} (h : RepAt base σ a w ref) (ht : t.isDeep = false) (hbr : nm ≠ BR) (hn : σ.heap nm = none) :
    RepAt base { σ with heap := fun n => bif Nat.beq n nm then some (.row t []) else σ.heap n } a w (fun n => if n = nm then .slice none 0 0 else ref n) := by
  refine h.add (u := .slice none 0 0) (B := .row t []) hbr hn (fun n => ?_) rfl rfl (Nat.le_refl _) (fun _ _ => rfl) (fun b hb => by simp [Owns, blkOf] at hb) ((row_plain ht).2 (.inl ⟨⟨none, rfl⟩, rfl⟩))
  by_cases he : n = nm
  · subst he; simp
  · simp [nbeq_ne he, he]
theorem Rep.promE (e : NilE) (h : Rep base w0 σ a w) : Rep base w0 (promE e σ) a w := by
  unfold Sx.promE
  split
  · rename_i hk hn hbq
    simp only [Bool.or_eq_false_iff] at hbq
    obtain ⟨hbq, htd⟩ := hbq
    have hbr : e.nm ≠ BR := fun hx => by rw [hx] at hbq; simp at hbq
    obtain ⟨h1, h2, h3, ref, h⟩ := h
    have h' := h.nilRow (t := e.t) htd hbr hn
    refine ⟨h1, h2, h3, _, ⟨h'.size, fun k => ?_, h'.blk, h'.inj, h'.le, h'.lent⟩⟩
    by_cases he : k = e.k
    · subst he
      simp only [Nat.beq_refl, cond_true]
      have hv := h.env e.k
      rw [hk] at hv
      have hv : a.tmps.getD e.k Go.undef = .slice none 0 0 := hv
      refine ⟨⟨.row e.t [], by simp⟩, ?_, none, 0, 0, hv⟩
      rw [hv]
      simp [cxOf]
    · simp only [nbeq_ne he, cond_false]
      exact h'.env k
  · exact h
theorem Rep.promB (e : NilB) (h : Rep base w0 σ a w) : Rep base w0 (promB e σ) a w := by
  unfold Sx.promB
  split
  · rename_i cs hh hn hbq
    simp only [Bool.or_eq_false_iff] at hbq
    obtain ⟨hbq, htd⟩ := hbq
    have hbr : e.nm ≠ BR := fun hx => by rw [hx] at hbq; simp at hbq
    split
    · rename_i hcs
      obtain ⟨h1, h2, h3, ref, h⟩ := h
      have hne : e.h ≠ e.nm := by intro he; rw [he, hn] at hh; simp at hh
      have h' := h.nilRow (t := e.t) htd hbr hn
      have hσ : ∀ n B, (bif Nat.beq n e.nm then some (Blk.row e.t []) else bif Nat.beq n e.h then some (.box (cs.set e.i (.row e.nm))) else σ.heap n) = some B → ∃ B0, (bif Nat.beq n e.nm then some (Blk.row e.t []) else σ.heap n) = some B0 ∧ B0.live = B.live ∧ (B = B0 ∨ (n = e.h ∧ B0 = .box cs ∧ B = .box (cs.set e.i (.row e.nm)))) := fun n B hB => by
        by_cases e1 : n = e.nm
        · subst e1
          simp only [Nat.beq_refl, cond_true] at hB ⊢
          exact ⟨B, hB, rfl, .inl rfl⟩
        · simp only [nbeq_ne e1, cond_false] at hB ⊢
          by_cases e2 : n = e.h
          · subst e2
            simp only [Nat.beq_refl, cond_true, Option.some.injEq] at hB
            subst hB
            exact ⟨.box cs, hh, rfl, .inr ⟨rfl, rfl, rfl⟩⟩
          · simp only [nbeq_ne e2, cond_false] at hB
            exact ⟨B, hB, rfl, .inl rfl⟩
      have hσ' : ∀ n B0, (bif Nat.beq n e.nm then some (Blk.row e.t []) else σ.heap n) = some B0 → ∃ B, (bif Nat.beq n e.nm then some (Blk.row e.t []) else bif Nat.beq n e.h then some (.box (cs.set e.i (.row e.nm))) else σ.heap n) = some B := fun n B0 hB => by
        by_cases e1 : n = e.nm
        · subst e1; exact ⟨.row e.t [], by simp⟩
        · simp only [nbeq_ne e1, cond_false] at hB ⊢
          by_cases e2 : n = e.h
          · subst e2; exact ⟨.box (cs.set e.i (.row e.nm)), by simp⟩
          · simp only [nbeq_ne e2, cond_false]; exact ⟨_, hB⟩
      have hle : (cxOf base { σ with heap := fun n => bif Nat.beq n e.nm then some (Blk.row e.t []) else σ.heap n } w (fun n => if n = e.nm then .slice none 0 0 else ref n)).le (cxOf base { nt := σ.nt, env := σ.env, heap := fun n => bif Nat.beq n e.nm then some (Blk.row e.t []) else bif Nat.beq n e.h then some (.box (cs.set e.i (.row e.nm))) else σ.heap n } w (fun n => if n = e.nm then .slice none 0 0 else ref n)) :=
        ⟨fun n ⟨B, hB⟩ => hσ' n B hB, fun _ _ => rfl, fun b hb => ⟨hb.1, hb.2.1, fun n B hB hl => by
          obtain ⟨B0, g1, g2, _⟩ := hσ n B hB
          exact hb.2.2 n B0 g1 (g2.trans hl)⟩, fun _ _ _ => rfl⟩
      refine ⟨h1, h2, h3, _, ⟨h'.size, fun k => (h'.env k).mono hle, fun n B hB => ?_, fun n m B B' b hB hl hB' hl' e1 e2 => ?_, h'.le, fun u hu hx => h'.lent u hu fun hy => hx (by
        have hy : (bif Nat.beq BR e.nm then some (Blk.row e.t []) else σ.heap BR) = none := hy
        show (bif Nat.beq BR e.nm then some (Blk.row e.t []) else bif Nat.beq BR e.h then some (.box (cs.set e.i (.row e.nm))) else σ.heap BR) = none
        rw [nbeq_ne (Ne.symm hbr)] at hy ⊢
        simp only [cond_false] at hy ⊢
        by_cases e2 : BR = e.h
        · rw [e2, hh] at hy; simp at hy
        · rw [nbeq_ne e2]; exact hy)⟩⟩
      · obtain ⟨B0, g1, g2, g3⟩ := hσ n B hB
        have hd := BlkDen.mono hle (fun _ _ => rfl) (h'.blk n B0 g1)
        rcases g3 with rfl | ⟨rfl, rfl, rfl⟩
        · exact hd
        · obtain ⟨b, vs, ty, k1, k2, k3, k4⟩ := hd
          refine ⟨b, vs, ty, k1, k2, k3, ?_⟩
          obtain ⟨v, hv, hdv⟩ := k4.get e.i hcs
          have hdv : v = .slice none 0 0 := hdv
          have hset : vs.set e.i v = vs := by
            apply List.ext_getElem?
            intro j
            rw [List.getElem?_set]
            split
            · rename_i hj; subst hj
              split
              · exact hv.symm
              · rename_i hlt
                rw [List.getElem?_eq_none (by omega)]
            · rfl
          rw [← hset]
          refine k4.set e.i ⟨⟨.row e.t [], by simp⟩, ?_, none, 0, 0, hdv⟩
          rw [hdv]
          simp [cxOf]
      · obtain ⟨C, g1, g2, _⟩ := hσ n B hB
        obtain ⟨C', g1', g2', _⟩ := hσ m B' hB'
        exact h'.inj n m C C' b g1 (g2.trans hl) g1' (g2'.trans hl') e1 e2
    · exact h
  · exact h
theorem Rep.promEs : ∀ (l : List NilE) {σ : St}, Rep base w0 σ a w → Rep base w0 (promEs l σ) a w
  | [], _, h => h
  | e :: l, _, h => Rep.promEs l (h.promE e)
theorem Rep.promBs : ∀ (l : List NilB) {σ : St}, Rep base w0 σ a w → Rep base w0 (promBs l σ) a w
  | [], _, h => h
  | e :: l, _, h => Rep.promBs l (h.promB e)
theorem Rep.nrm (ann : LAnn) (h : Rep base w0 σ a w) : Rep base w0 (nrmSt ann σ) a w := ((h.promEs _).promBs _).nrm0 ann
end
end Sx
end Go.Proofs.Ytemlpimibhijoaa
