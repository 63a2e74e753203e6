/- The evaluator: a region of operations, in whatever order its edges allow. Conditions: as each says. -/
import Derived.Test.YtemlpimibhijoaaSxG
set_option linter.unusedSimpArgs false
set_option linter.unusedVariables false
namespace Go.Proofs.Ytemlpimibhijoaa
open Go.RowKit
namespace Sx
inductive Tree (α : Type) where
  | leaf (x : α)
  | ite (c : Bool) (t e : Tree α)
  | need (p : Prop) (t : Tree α)
  | both (p : Prop) (t e : Tree α)
  | stuck (n : Nat)
def Tree.ok {α : Type} (Q : α → Prop) : Tree α → Prop
  | .leaf x => Q x
  | .ite c t e => (c = true → t.ok Q) ∧ (c = false → e.ok Q)
  | .need p t => p ∧ t.ok Q
  | .both p t e => (p → t.ok Q) ∧ e.ok Q
  | .stuck _ => False

section
variable {α : Type}
/-! The evaluator's own order: a value is brought to its form before it is kept. Nothing else is changed by it ('.._eq'). -/
def forceOff (off : Nat) (c : Nat → Tree α) : List Nat → Tree α
  | [] => c off
  | k :: ks => bif Nat.beq off k then c k else forceOff off c ks
theorem forceOff_eq (off : Nat) (c : Nat → Tree α) : ∀ ks, forceOff off c ks = c off
  | [] => rfl
  | k :: ks => by
    simp only [forceOff]
    cases h : Nat.beq off k
    · exact forceOff_eq off c ks
    · rw [Nat.eq_of_beq_eq_true h]; rfl
def forceCell (v : AV) (c : AV → Tree α) : Tree α :=
  match v with
  | .int k n => match k with
    | .i64 => c (.int .i64 n)
    | .u64 => c (.int .u64 n)
    | .u8 => c (.int .u8 n)
    | .i32 => c (.int .i32 n)
    | k => c (.int k n)
  | .bool b => c (.bool b)
  | .lit b => match b with
    | true => c (.lit true)
    | false => c (.lit false)
  | .str s => c (.str s)
  | .undef => c .undef
  | .unk => c .unk
  | .nilS => c .nilS
  | .empS => c .empS
  | .guess q => c (.guess q)
  | .clo f cs => c (.clo f cs)
  | .fn f => c (.fn f)
  | .ptr nm off => c (.ptr nm off)
  | .elt sz nm i off => forceOff off (fun off => c (.elt sz nm i off)) [0, 1, 2, 3, 4, 5, 6, 7, 8, 9, 10, 11, 12]
  | .part sz nm off n => c (.part sz nm off n)
  | .inr i off => forceOff off (fun off => c (.inr i off)) [0, 1, 2, 3, 4, 5, 6, 7, 8, 9, 10, 11, 12]
  | .velt t x off => c (.velt t x off)
  | .view t xs => c (.view t xs)
  | .own t xs => c (.own t xs)
  | .row nm => c (.row nm)
  | .agg cs => c (.agg cs)
  | .tup cs => c (.tup cs)
def forceCells : List AV → (List AV → Tree α) → Tree α
  | [], c => c []
  | x :: xs, c => forceCell x fun x => forceCells xs fun xs => c (x :: xs)
def forceAg (v : AV) (c : AV → Tree α) : Tree α :=
  match v with
  | .agg cs => forceCells cs fun cs => c (.agg cs)
  | v => forceCell v c
def forceAgs : List AV → (List AV → Tree α) → Tree α
  | [], c => c []
  | x :: xs, c => forceAg x fun x => forceAgs xs fun xs => c (x :: xs)
def forceAV (v : AV) (c : AV → Tree α) : Tree α :=
  match v with
  | .tup cs => forceAgs cs fun cs => c (.tup cs)
  | v => forceAg v c
def forceU : List (Nat × Blk) → (List (Nat × Blk) → Tree α) → Tree α
  | [], c => c []
  | (n, .box cs) :: u, c => forceCells cs fun cs => forceU u fun u => c ((n, .box cs) :: u)
  | (n, .row t xs) :: u, c => forceU u fun u => c ((n, .row t xs) :: u)
  | (n, .dead) :: u, c => forceU u fun u => c ((n, .dead) :: u)
  | (n, .hole t e xs i off d) :: u, c => forceU u fun u => c ((n, .hole t e xs i off d) :: u)
def forceNs : List Nat → (List Nat → Tree α) → Tree α
  | [], c => c []
  | n :: ns, c => forceNs ns fun ns => c (n :: ns)
def forceD (d : Option Nat) (c : Option Nat → Tree α) : Tree α :=
  match d with
  | some d => c (some d)
  | none => c none
theorem forceCell_eq (v : AV) (c : AV → Tree α) : forceCell v c = c v := by
  unfold forceCell
  split <;> try rfl
  · split <;> rfl
  · split <;> rfl
  all_goals exact forceOff_eq _ _ _
theorem forceCells_eq : ∀ (l : List AV) (c : List AV → Tree α), forceCells l c = c l
  | [], _ => rfl
  | x :: xs, c => by simp only [forceCells, forceCell_eq, forceCells_eq xs]
theorem forceAg_eq (v : AV) (c : AV → Tree α) : forceAg v c = c v := by
  unfold forceAg
  split
  · rw [forceCells_eq]
  · rw [forceCell_eq]
theorem forceAgs_eq : ∀ (l : List AV) (c : List AV → Tree α), forceAgs l c = c l
  | [], _ => rfl
  | x :: xs, c => by simp only [forceAgs, forceAg_eq, forceAgs_eq xs]
theorem forceAV_eq (v : AV) (c : AV → Tree α) : forceAV v c = c v := by
  unfold forceAV
  split
  · rw [forceAgs_eq]
  · rw [forceAg_eq]
theorem forceU_eq : ∀ (l : List (Nat × Blk)) (c : List (Nat × Blk) → Tree α), forceU l c = c l
  | [], _ => rfl
  | (n, .box cs) :: u, c => by simp only [forceU, forceCells_eq, forceU_eq u]
  | (n, .row t xs) :: u, c => by simp only [forceU, forceU_eq u]
  | (n, .dead) :: u, c => by simp only [forceU, forceU_eq u]
  | (n, .hole t e xs i off d) :: u, c => by simp only [forceU, forceU_eq u]
theorem forceNs_eq : ∀ (l : List Nat) (c : List Nat → Tree α), forceNs l c = c l
  | [], _ => rfl
  | n :: ns, c => by simp only [forceNs, forceNs_eq ns]
theorem forceD_eq (d : Option Nat) (c : Option Nat → Tree α) : forceD d c = c d := by cases d <;> rfl
def needs (p : Nd) (t : Tree α) : Tree α :=
  match p with
  | .tt => t
  | .p q => .need q t
theorem needs_ok {p : Nd} {t : Tree α} {Q : α → Prop} : (needs p t).ok Q → p.ok ∧ t.ok Q := by
  cases p
  · exact fun h => ⟨trivial, h⟩
  · exact fun h => h

end
/-- What an operation has done: the value in its slot, the blocks that it made or wrote, the names that it looked at. -/
abbrev Ac := AV × List (Nat × Blk) × List Nat
def disj (xs ys : List Nat) : Bool := xs.all fun x => !(ys.any (Nat.beq x))
def updNames : List (Nat × Blk) → List Nat
  | [] => []
  | (n, _) :: u => n :: updNames u
structure Tr where
  i : Nat
  o : Oper
  ac : Ac
def pairOk (ops : Array Oper) (m : Nat) (t : Tr) (o : Oper) (ac : Ac) : Bool :=
  m.testBit t.i || (Oper.apart ops t.o o && (disj (updNames t.ac.2.1) (ac.2.2 ++ updNames ac.2.1) && disj (updNames ac.2.1) t.ac.2.2))
/-- For each operation: those that come before it in every order, as a number's bits. -/
def masks : List Oper → List Nat → List Nat
  | [], acc => acc
  | o :: rest, acc => masks rest (acc ++ [o.after.toList.foldl (fun s e => bif Region.binds .any e then s ||| 2 ^ e.on ||| acc.getD e.on 0 else s) 0])
def edgesOk (ops : List Oper) : Nat → Bool
  | j => match ops with
    | [] => true
    | o :: rest => (o.after.toList.all fun e => !Region.binds .any e || Nat.blt e.on j) && edgesOk rest (j + 1)
def isGuard (ops : Array Oper) (j : Nat) : Bool := ops.toList.any fun o => match o.guard with
  | some (g, _) => Nat.beq g j
  | none => false
def wantedA (ops : Array Oper) (o : Oper) (env : Nat → AV) : Option Bool :=
  match o.guard with
  | none => some true
  | some (g, want) => match (ops[g]?).bind (·.dst) with
    | some gs => match env gs with
      | .undef => some false
      | .lit b => some (b == want)
      | _ => none
    | none => none
section
variable {α : Type} (P : Program) (C : FuncId → Option Ct) (wr : Bool)
def exOps (ops : Array Oper) (draw : Bool) : List Oper → List Nat → Nat → List Tr → St → (St → Tree α) → Tree α
  | [], _, _, _, σ, k => k σ
  | o :: rest, ms, j, tr, σ, k =>
    bif !dstOk σ o.dst then .stuck 1 else
    match wantedA ops o σ.env with
    | none => .stuck 2
    | some false =>
      bif draw && !(tr.all fun t => pairOk ops (ms.headD 0) t o (.undef, [], [])) then .stuck 3 else
      exOps ops draw rest ms.tail (j + 1) (⟨j, o, (.undef, [], [])⟩ :: tr) (σ.apply o.dst .undef []) k
    | some true =>
      forceAgs (opVals σ.env o) fun vals =>
      match opRes P C wr o vals σ.heap with
      | none => .need (vals = vals) (.stuck (1000 + j))
      | some ⟨p, v, u⟩ =>
        forceAV v fun v => forceU u fun u => forceNs (look o vals σ.heap) fun ns => forceD o.dst fun dst =>
        needs p <|
        bif draw && !(tr.all fun t => pairOk ops (ms.headD 0) t o (v, u, ns)) then .stuck 4 else
        bif isGuard ops j then
          match v with
          | .bool b => .ite b (exOps ops draw rest ms.tail (j + 1) (⟨j, o, (.lit true, u, ns)⟩ :: tr) (σ.apply dst (.lit true) u) k) (exOps ops draw rest ms.tail (j + 1) (⟨j, o, (.lit false, u, ns)⟩ :: tr) (σ.apply dst (.lit false) u) k)
          | v => exOps ops draw rest ms.tail (j + 1) (⟨j, o, (v, u, ns)⟩ :: tr) (σ.apply dst v u) k
        else exOps ops draw rest ms.tail (j + 1) (⟨j, o, (v, u, ns)⟩ :: tr) (σ.apply dst v u) k
def exRegion (ops : Array Oper) (draw : Bool) (σ : St) (k : St → Tree α) : Tree α :=
  bif draw then
    bif edgesOk ops.toList 0 then exOps P C wr ops true ops.toList (masks ops.toList []) 0 [] σ k else .stuck 5
  else exOps P C wr ops false ops.toList [] 0 [] σ k
/-- One step, on one way. -/
def StepOk (ops : Array Oper) (o : Oper) (σ : St) (ac : Ac) : Prop :=
  dstOk σ o.dst = true ∧
  ((wantedA ops o σ.env = some true ∧ ∃ r, opRes P C wr o (opVals σ.env o) σ.heap = some r ∧ r.need.ok ∧ ac.2.1 = r.upd ∧ ac.2.2 = look o (opVals σ.env o) σ.heap ∧ (ac.1 = r.val ∨ ∃ b, r.val = .bool b ∧ ac.1 = .lit b)) ∨
   (wantedA ops o σ.env = some false ∧ ac = (.undef, [], [])))
def Run (ops : Array Oper) : List Oper → St → List Ac → Prop
  | [], _, acs => acs = []
  | o :: rest, σ, acs => ∃ ac acs', acs = ac :: acs' ∧ StepOk P C wr ops o σ ac ∧ Run ops rest (σ.apply o.dst ac.1 ac.2.1) acs'
def endSt : List Oper → St → List Ac → St
  | o :: rest, σ, ac :: acs => endSt rest (σ.apply o.dst ac.1 ac.2.1) acs
  | _, σ, _ => σ
/-- All pairs of the rest against the trace and each other. -/
def Pairs (ops : Array Oper) : List Oper → List Ac → List Nat → Nat → List Tr → Prop
  | o :: rest, ac :: acs, ms, j, tr => (∀ t ∈ tr, pairOk ops (ms.headD 0) t o ac = true) ∧ Pairs ops rest acs ms.tail (j + 1) (⟨j, o, ac⟩ :: tr)
  | _, _, _, _, _ => True
end
section
variable {α : Type} {P : Program} {C : FuncId → Option Ct} {wr : Bool} {ops : Array Oper} {Q : α → Prop}
theorem pairOk_val {m : Nat} {t : Tr} {o : Oper} {v v' : AV} {u : List (Nat × Blk)} {ns : List Nat} : pairOk ops m t o (v, u, ns) = pairOk ops m t o (v', u, ns) := rfl
theorem exOps_run {draw : Bool} : ∀ (l : List Oper) (ms : List Nat) (j : Nat) (tr : List Tr) (σ : St) (k : St → Tree α), (exOps P C wr ops draw l ms j tr σ k).ok Q →
    ∃ acs, Run P C wr ops l σ acs ∧ (draw = true → Pairs ops l acs ms j tr) ∧ (k (endSt l σ acs)).ok Q
  | [], ms, j, tr, σ, k, h => ⟨[], rfl, fun _ => trivial, h⟩
  | o :: rest, ms, j, tr, σ, k, h => by
    have fin : ∀ (ac : Ac), StepOk P C wr ops o σ ac → (draw = true → ∀ t ∈ tr, pairOk ops (ms.headD 0) t o ac = true) → (exOps P C wr ops draw rest ms.tail (j + 1) (⟨j, o, ac⟩ :: tr) (σ.apply o.dst ac.1 ac.2.1) k).ok Q →
        ∃ acs, Run P C wr ops (o :: rest) σ acs ∧ (draw = true → Pairs ops (o :: rest) acs ms j tr) ∧ (k (endSt (o :: rest) σ acs)).ok Q := by
      intro ac h1 h2 h3
      obtain ⟨acs, r1, r2, r3⟩ := exOps_run rest ms.tail (j + 1) _ _ k h3
      exact ⟨ac :: acs, ⟨ac, acs, rfl, h1, r1⟩, fun hd => ⟨h2 hd, r2 hd⟩, r3⟩
    unfold exOps at h
    cases hd : dstOk σ o.dst <;> rw [hd] at h <;> simp only [Bool.not_true, Bool.not_false, cond_true, cond_false] at h
    · exact h.elim
    · split at h
      · exact h.elim
      · rename_i hw
        cases hp : (draw && !(tr.all fun t => pairOk ops (ms.headD 0) t o (.undef, [], []))) <;> rw [hp] at h <;> simp only [cond_true, cond_false] at h
        · refine fin (.undef, [], []) ⟨hd, .inr ⟨hw, rfl⟩⟩ (fun hdr => ?_) h
          simpa [hdr] using hp
        · exact h.elim
      · rename_i hw
        rw [forceAgs_eq] at h
        split at h
        · exact h.2.elim
        · rename_i p v u hr
          rw [forceAV_eq, forceU_eq, forceNs_eq, forceD_eq] at h
          generalize hrr : (⟨p, v, u⟩ : Res) = r at hr
          obtain rfl : r.need = p := by rw [← hrr]
          obtain rfl : r.val = v := by rw [← hrr]
          obtain rfl : r.upd = u := by rw [← hrr]
          clear hrr
          obtain ⟨hn, h⟩ := needs_ok h
          cases hp : (draw && !(tr.all fun t => pairOk ops (ms.headD 0) t o (r.val, r.upd, look o (opVals σ.env o) σ.heap))) <;> rw [hp] at h <;> simp only [cond_true, cond_false] at h
          · have hpair : draw = true → ∀ t ∈ tr, pairOk ops (ms.headD 0) t o (r.val, r.upd, look o (opVals σ.env o) σ.heap) = true := fun hdr => by simpa [hdr] using hp
            cases hg : isGuard ops j <;> rw [hg] at h <;> simp only [cond_true, cond_false] at h
            · exact fin (r.val, r.upd, look o (opVals σ.env o) σ.heap) ⟨hd, .inl ⟨hw, r, hr, hn, rfl, rfl, .inl rfl⟩⟩ hpair h
            · split at h
              · rename_i b hb
                obtain ⟨h1, h2⟩ := h
                cases b
                · exact fin (.lit false, r.upd, look o (opVals σ.env o) σ.heap) ⟨hd, .inl ⟨hw, r, hr, hn, rfl, rfl, .inr ⟨false, hb, rfl⟩⟩⟩ hpair (h2 rfl)
                · exact fin (.lit true, r.upd, look o (opVals σ.env o) σ.heap) ⟨hd, .inl ⟨hw, r, hr, hn, rfl, rfl, .inr ⟨true, hb, rfl⟩⟩⟩ hpair (h1 rfl)
              · exact fin (r.val, r.upd, look o (opVals σ.env o) σ.heap) ⟨hd, .inl ⟨hw, r, hr, hn, rfl, rfl, .inl rfl⟩⟩ hpair h
          · exact h.elim
variable {base : Base} {w0 w : World} {σ : St} {a : Act} {R : Exit → Act → World → Prop} {K : Act → World → Prop}
theorem wanted_of {o : Oper} {b : Bool} (h : Rep base w0 σ a w) (hw : wantedA ops o σ.env = some b) : Region.wanted o (yielded ops a.tmps) = b := by
  obtain ⟨_, _, _, ref, h⟩ := h
  unfold wantedA at hw
  unfold Region.wanted
  split at hw
  · rename_i hg
    simp only [hg]
    simpa using hw.symm
  · rename_i g want hg
    simp only [hg]
    split at hw
    · rename_i gs hgs
      have he := h.env gs
      have hget : ∀ v : Bool, a.tmps.getD gs Go.undef = .bool v → a.tmps[gs]? = some (.bool v) := fun v hv => by
        rw [Array.getD_eq_getD_getElem?] at hv
        cases hx : a.tmps[gs]? with
        | none => rw [hx] at hv; simp [Go.undef] at hv
        | some x => rw [hx] at hv; simpa using hv
      split at hw
      · rename_i hu
        rw [hu] at he
        have he : a.tmps.getD gs Go.undef = Go.undef := he
        have : yielded ops a.tmps g = none := by
          unfold yielded
          rw [hgs, Option.bind_some]
          rw [Array.getD_eq_getD_getElem?] at he
          cases hx : a.tmps[gs]? with
          | none => rfl
          | some x => rw [hx] at he; simp only [Option.getD_some] at he; subst he; rfl
        rw [this]
        simpa using hw.symm
      · rename_i bb hu
        rw [hu] at he
        have he := hget _ he
        have : yielded ops a.tmps g = some bb := by
          unfold yielded
          rw [hgs, Option.bind_some, he]
        rw [this]
        simp only [Option.some.injEq] at hw
        rw [← hw]
        cases bb <;> cases want <;> rfl
      · simp at hw
    · simp at hw
theorem step_sound {o : Oper} {i : Nat} {ac : Ac} (hC : CG P C base w0) (hi : ops[i]? = some o) (hs : StepOk P C wr ops o σ ac) (h : Rep base w0 σ a w)
    (hK : ∀ a' w', Rep base w0 (σ.apply o.dst ac.1 ac.2.1) a' w' → K a' w') : wpOp P ops R i K a w := by
  unfold wpOp
  simp only [hi]
  obtain ⟨hd, ⟨hw, r, hr, hn, e1, e2, e3⟩ | ⟨hw, rfl⟩⟩ := hs
  · rw [if_pos (wanted_of h hw)]
    refine .inl (opRes_sound hC hr hn hd h fun a' w' h' => hK a' w' ?_)
    rw [e1]
    rcases e3 with e3 | ⟨b, e3, e4⟩
    · rw [e3]; exact h'
    · rw [e4]
      rw [e3] at h'
      obtain ⟨h1, h2, h3, ref, h'⟩ := h'
      refine ⟨h1, h2, h3, ref, h'.size, fun k => ?_, h'.blk, h'.inj, h'.le, h'.lent⟩
      have := h'.env k
      cases hdst : o.dst with
      | none => rw [hdst] at this; exact this
      | some d =>
        rw [hdst] at this
        simp only [St.apply, putEnv] at this ⊢
        by_cases hk : k = d
        · subst hk
          simp only [Nat.beq_refl, cond_true] at this ⊢
          exact this
        · simp only [nbeq_ne hk, cond_false] at this ⊢
          exact this
  · rw [if_neg (by rw [wanted_of h hw]; simp)]
    obtain ⟨h1, h2, h3, ref, h'⟩ := h
    exact hK _ _ (Rep.put h' h1 h2 h3 hd fun _ => rfl)
theorem plain_sound (hC : CG P C base w0) : ∀ (l : List Oper) (i : Nat) (σ : St) (acs : List Ac) (a : Act) (w : World), (∀ j, l[j]? = ops[i + j]?) → Run P C wr ops l σ acs → Rep base w0 σ a w →
    (∀ a' w', Rep base w0 (endSt l σ acs) a' w' → R .normal a' w') → wpOps P ops R (List.range' i l.length) a w
  | [], i, σ, acs, a, w, _, hr, h, hR => by simp only [Run] at hr; subst hr; exact hR a w h
  | o :: rest, i, σ, acs, a, w, hl, hr, h, hR => by
    obtain ⟨ac, acs', rfl, hs, hr⟩ := hr
    have h0 : ops[i]? = some o := by simpa using (hl 0).symm
    rw [List.length_cons, List.range'_succ, wpOps_cons]
    refine step_sound hC h0 hs h fun a' w' h' => ?_
    exact plain_sound hC rest (i + 1) _ acs' a' w' (fun j => by have := hl (j + 1); simpa [Nat.add_assoc, Nat.add_comm 1 j] using this) hr h' hR
theorem endSt_nt : ∀ (l : List Oper) (σ : St) (acs : List Ac), (endSt l σ acs).nt = σ.nt
  | [], _, _ => by simp [endSt]
  | o :: rest, _, [] => by simp [endSt]
  | o :: rest, σ, ac :: acs => by simp only [endSt]; rw [endSt_nt rest]; rfl
theorem region_plain {id : Nat} {k : St → Tree α} (hC : CG P C base w0) (hok : (exRegion P C wr ops false σ k).ok Q) (h : Rep base w0 σ a w)
    (hR : ∀ σ' a' w', σ'.nt = σ.nt → (k σ').ok Q → Rep base w0 σ' a' w' → R .normal a' w') : (Code.region id ops false).wp P R a w := by
  obtain ⟨acs, h1, _, h3⟩ := exOps_run _ _ _ _ _ _ hok
  refine wp_region ?_
  have := plain_sound (R := R) hC ops.toList 0 σ acs a w (by simp) h1 h fun a' w' h' => hR _ a' w' (endSt_nt _ _ _) h3 h'
  rwa [Array.length_toList, ← List.range_eq_range'] at this
end
end Sx
end Go.Proofs.Ytemlpimibhijoaa
