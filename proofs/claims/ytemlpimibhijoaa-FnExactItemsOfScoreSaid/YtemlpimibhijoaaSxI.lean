/- A drawn region: every order that the edges allow ends where the order of the text ends. Conditions: as each says. -/
import Derived.Test.YtemlpimibhijoaaSxH
set_option linter.unusedSimpArgs false
set_option linter.unusedVariables false
namespace Go.Proofs.Ytemlpimibhijoaa
open Go.RowKit
namespace Sx
def stS (S : Nat → Bool) : List Oper → List Ac → Nat → St → St
  | o :: rest, ac :: acs, i, σ => stS S rest acs (i + 1) (bif S i then σ.apply o.dst ac.1 ac.2.1 else σ)
  | _, _, _, σ => σ
theorem endSt_eq {S : Nat → Bool} : ∀ (l : List Oper) (acs : List Ac) (i : Nat) (σ : St), (∀ k, k < l.length → S (i + k) = true) → stS S l acs i σ = endSt l σ acs
  | [], _, _, _, _ => by simp [stS, endSt]
  | o :: rest, [], _, _, _ => by simp [stS, endSt]
  | o :: rest, ac :: acs, i, σ, h => by
    have h0 := h 0 (by simp)
    simp only [Nat.add_zero] at h0
    simp only [stS, endSt, h0, cond_true]
    exact endSt_eq rest acs (i + 1) _ fun k hk => by have := h (k + 1) (by simpa using hk); rwa [Nat.add_assoc, Nat.add_comm 1 k]
theorem stS_none {S : Nat → Bool} : ∀ (l : List Oper) (acs : List Ac) (i : Nat) (σ : St), (∀ k, i ≤ k → S k = false) → stS S l acs i σ = σ
  | [], _, _, _, _ => by simp [stS]
  | o :: rest, [], _, _, _ => by simp [stS]
  | o :: rest, ac :: acs, i, σ, h => by
    simp only [stS, h i (Nat.le_refl _), cond_false]
    exact stS_none rest acs (i + 1) σ fun k hk => h k (by omega)
theorem apply_nt (σ : St) (d : Option Nat) (v : AV) (u : List (Nat × Blk)) : (σ.apply d v u).nt = σ.nt := rfl
theorem stS_nt {S : Nat → Bool} : ∀ (l : List Oper) (acs : List Ac) (i : Nat) (σ : St), (stS S l acs i σ).nt = σ.nt
  | [], _, _, _ => by simp [stS]
  | o :: rest, [], _, _ => by simp [stS]
  | o :: rest, ac :: acs, i, σ => by
    simp only [stS]
    rw [stS_nt rest acs]
    cases S i <;> rfl
theorem apply_env {σ : St} {d : Option Nat} {v : AV} {u : List (Nat × Blk)} {x : Nat} : (σ.apply d v u).env x = if d = some x then v else σ.env x := by
  cases d with
  | none => simp [St.apply, putEnv]
  | some d =>
    simp only [St.apply, putEnv, Option.some.injEq]
    by_cases h : d = x
    · subst h; simp
    · rw [nbeq_ne (Ne.symm h), if_neg h]; rfl
theorem apply_heap {σ : St} {d : Option Nat} {v : AV} {u : List (Nat × Blk)} {n : Nat} : (σ.apply d v u).heap n = findU u n (σ.heap n) := by
  cases u <;> rfl
theorem findU_not : ∀ {u : List (Nat × Blk)} {n : Nat} {z : Option Blk}, n ∉ updNames u → findU u n z = z
  | [], _, _, _ => rfl
  | (m, b) :: u, n, z, h => by
    simp only [updNames, List.mem_cons, not_or] at h
    simp only [findU, nbeq_ne h.1, cond_false]
    exact findU_not h.2
theorem findU_mem : ∀ {u : List (Nat × Blk)} {n : Nat} {z z' : Option Blk}, n ∈ updNames u → findU u n z = findU u n z'
  | (m, b) :: u, n, z, z', h => by
    simp only [updNames, List.mem_cons] at h
    simp only [findU]
    by_cases he : n = m
    · subst he; simp
    · rw [nbeq_ne he]
      exact findU_mem (h.resolve_left he)
theorem stS_env {S S' : Nat → Bool} {x : Nat} : ∀ (l : List Oper) (acs : List Ac) (i : Nat) (σ σ' : St), (∀ k o, l[k]? = some o → o.dst = some x → S (i + k) = S' (i + k)) → σ.env x = σ'.env x → (stS S l acs i σ).env x = (stS S' l acs i σ').env x
  | [], _, _, _, _, _, h => by simpa [stS] using h
  | o :: rest, [], _, _, _, _, h => by simpa [stS] using h
  | o :: rest, ac :: acs, i, σ, σ', ha, h => by
    simp only [stS]
    refine stS_env rest acs (i + 1) _ _ (fun k o' hk hd => by have := ha (k + 1) o' (by simpa using hk) hd; rwa [Nat.add_assoc, Nat.add_comm 1 k]) ?_
    by_cases hd : o.dst = some x
    · have h0 := ha 0 o rfl hd
      simp only [Nat.add_zero] at h0
      rw [h0]
      cases S' i
      · exact h
      · simp [apply_env, hd]
    · have e : ∀ (b : Bool) (τ : St), (bif b then τ.apply o.dst ac.1 ac.2.1 else τ).env x = τ.env x := fun b τ => by
        cases b
        · rfl
        · simp only [cond_true, apply_env, if_neg hd]
      rw [e, e]; exact h
theorem stS_heap {S S' : Nat → Bool} {n : Nat} : ∀ (l : List Oper) (acs : List Ac) (i : Nat) (σ σ' : St), (∀ k ac, acs[k]? = some ac → n ∈ updNames ac.2.1 → S (i + k) = S' (i + k)) → σ.heap n = σ'.heap n → (stS S l acs i σ).heap n = (stS S' l acs i σ').heap n
  | [], _, _, _, _, _, h => by simpa [stS] using h
  | o :: rest, [], _, _, _, _, h => by simpa [stS] using h
  | o :: rest, ac :: acs, i, σ, σ', ha, h => by
    simp only [stS]
    refine stS_heap rest acs (i + 1) _ _ (fun k ac' hk hd => by have := ha (k + 1) ac' (by simpa using hk) hd; rwa [Nat.add_assoc, Nat.add_comm 1 k]) ?_
    by_cases hd : n ∈ updNames ac.2.1
    · have h0 := ha 0 ac rfl hd
      simp only [Nat.add_zero] at h0
      rw [h0]
      cases S' i
      · exact h
      · simp only [cond_true, apply_heap]; exact findU_mem hd
    · have e : ∀ (b : Bool) (τ : St), (bif b then τ.apply o.dst ac.1 ac.2.1 else τ).heap n = τ.heap n := fun b τ => by
        cases b
        · rfl
        · simp only [cond_true, apply_heap, findU_not hd]
      rw [e, e]; exact h
theorem st_ext {σ τ : St} (h1 : σ.nt = τ.nt) (h2 : ∀ x, σ.env x = τ.env x) (h3 : ∀ n, σ.heap n = τ.heap n) : σ = τ := by
  obtain ⟨n1, e1, p1⟩ := σ
  obtain ⟨n2, e2, p2⟩ := τ
  simp only at h1 h2 h3
  rw [h1, funext h2, funext h3]
theorem stS_succ : ∀ (l : List Oper) (acs : List Ac) (i : Nat) (σ : St) (k : Nat) (o : Oper) (ac : Ac), l[k]? = some o → acs[k]? = some ac →
    stS (fun m => decide (m < i + k + 1)) l acs i σ = (stS (fun m => decide (m < i + k)) l acs i σ).apply o.dst ac.1 ac.2.1
  | [], _, _, _, k, _, _, h, _ => by simp at h
  | _ :: _, [], _, _, k, _, _, _, h => by simp at h
  | o1 :: rest, ac1 :: acs, i, σ, 0, o, ac, h, h' => by
    simp only [List.getElem?_cons_zero, Option.some.injEq] at h h'
    subst h h'
    simp only [stS, Nat.add_zero, show i < i + 1 by omega, decide_true, cond_true, Nat.lt_irrefl, decide_false, cond_false]
    rw [stS_none _ _ _ _ (fun k hk => by simp; omega), stS_none _ _ _ _ (fun k hk => by simp; omega)]
  | o1 :: rest, ac1 :: acs, i, σ, k + 1, o, ac, h, h' => by
    have := stS_succ rest acs (i + 1) (σ.apply o1.dst ac1.1 ac1.2.1) k o ac (by simpa using h) (by simpa using h')
    simp only [stS, show i < i + (k + 1) + 1 by omega, show i < i + (k + 1) by omega, decide_true, cond_true]
    rwa [show i + 1 + k = i + (k + 1) by omega] at this
theorem filter_set : ∀ (l : List Bool) (j : Nat), l[j]? = some false → ((l.set j true).filter (· = false)).length + 1 = (l.filter (· = false)).length
  | [], j, h => by simp at h
  | b :: l, 0, h => by
    simp only [List.getElem?_cons_zero, Option.some.injEq] at h
    subst h
    simp
  | b :: l, j + 1, h => by
    have := filter_set l j (by simpa using h)
    simp only [List.set_cons_succ, List.filter_cons]
    split <;> (try simp only [List.length_cons]) <;> omega
inductive Anc (ops : Array Oper) : Nat → Nat → Prop where
  | direct {i j : Nat} {o : Oper} {e : Edge} (h : ops[j]? = some o) (he : e ∈ o.after.toList) (hb : Region.binds .any e = true) (hi : e.on = i) : Anc ops i j
  | trans {i j : Nat} {o : Oper} {e : Edge} (h : ops[j]? = some o) (he : e ∈ o.after.toList) (hb : Region.binds .any e = true) (hi : Anc ops i e.on) : Anc ops i j
theorem testBit_two_pow {n i : Nat} : (2 ^ n).testBit i = decide (n = i) := Nat.testBit_two_pow
theorem mask_anc {ops : Array Oper} {o : Oper} {j : Nat} {acc : List Nat} (ho : ops[j]? = some o) (hacc : ∀ k i, (acc.getD k 0).testBit i = true → Anc ops i k) :
    ∀ (es : List Edge) (s : Nat), (∀ e ∈ es, e ∈ o.after.toList) → (∀ i, s.testBit i = true → Anc ops i j) → ∀ i, (es.foldl (fun s e => bif Region.binds .any e then s ||| 2 ^ e.on ||| acc.getD e.on 0 else s) s).testBit i = true → Anc ops i j
  | [], s, _, hs, i, h => hs i h
  | e :: es, s, hes, hs, i, h => by
    refine mask_anc ho hacc es _ (fun e' he' => hes e' (by simp [he'])) (fun i hi => ?_) i h
    cases hb : Region.binds .any e <;> simp only [hb, cond_true, cond_false] at hi
    · exact hs i hi
    · simp only [Nat.testBit_or, Bool.or_eq_true, testBit_two_pow, decide_eq_true_eq] at hi
      rcases hi with (hi | hi) | hi
      · exact hs i hi
      · exact .direct ho (hes e (by simp)) hb hi
      · exact .trans ho (hes e (by simp)) hb (hacc _ _ hi)
theorem masks_anc {ops : Array Oper} : ∀ (l : List Oper) (acc : List Nat), (∀ k, l[k]? = ops[acc.length + k]?) → (∀ k i, (acc.getD k 0).testBit i = true → Anc ops i k) → ∀ k i, ((masks l acc).getD k 0).testBit i = true → Anc ops i k
  | [], acc, _, ha, k, i, h => ha k i h
  | o :: rest, acc, hl, ha, k, i, h => by
    refine masks_anc rest _ (fun k => by have := hl (k + 1); simpa [Nat.add_assoc, Nat.add_comm 1 k] using this) (fun k i hk => ?_) k i h
    rcases Nat.lt_trichotomy k acc.length with hlt | rfl | hgt
    · simp only [List.getD, List.getElem?_append_left hlt] at hk
      exact ha k i (by simpa [List.getD] using hk)
    · simp only [List.getD, List.getElem?_append_right (Nat.le_refl _), Nat.sub_self, List.getElem?_cons_zero, Option.getD_some] at hk
      exact mask_anc (by simpa using (hl 0).symm) ha _ 0 (fun _ h => h) (by simp) i hk
    · simp only [List.getD] at hk
      rw [List.getElem?_eq_none (by simp; omega)] at hk
      simp at hk
section
variable {P : Program} {C : FuncId → Option Ct} {wr : Bool} {ops : Array Oper} {α : Type} {Q : α → Prop}
variable {base : Base} {w0 w : World} {σ : St} {a : Act} {R : Exit → Act → World → Prop} {K : Act → World → Prop}
theorem run_at : ∀ (l : List Oper) (i : Nat) (σ : St) (acs : List Ac), Run P C wr ops l σ acs → ∀ k o, l[k]? = some o → ∃ ac, acs[k]? = some ac ∧ StepOk P C wr ops o (stS (fun m => decide (m < i + k)) l acs i σ) ac
  | [], _, _, _, _, k, o, h => by simp at h
  | o' :: rest, i, σ, acs, hr, k, o, h => by
    obtain ⟨ac, acs', rfl, hs, hr⟩ := hr
    cases k with
    | zero =>
      simp only [List.getElem?_cons_zero, Option.some.injEq] at h
      subst h
      refine ⟨ac, rfl, ?_⟩
      rw [stS_none _ _ _ _ (fun k hk => by simp; omega)]
      exact hs
    | succ k =>
      obtain ⟨ac', h1, h2⟩ := run_at rest (i + 1) _ acs' hr k o (by simpa using h)
      refine ⟨ac', by simpa using h1, ?_⟩
      simp only [stS, show i < i + (k + 1) by omega, decide_true, cond_true]
      rwa [show i + (k + 1) = i + 1 + k by omega]
theorem run_length : ∀ (l : List Oper) (σ : St) (acs : List Ac), Run P C wr ops l σ acs → acs.length = l.length
  | [], _, _, h => by simp only [Run] at h; subst h; rfl
  | o :: rest, σ, acs, h => by
    obtain ⟨ac, acs', rfl, _, h⟩ := h
    simp [run_length rest _ acs' h]
theorem pairs_at : ∀ (l : List Oper) (acs : List Ac) (ms : List Nat) (j : Nat) (tr : List Tr), Pairs ops l acs ms j tr → ∀ k o ac, l[k]? = some o → acs[k]? = some ac →
    (∀ t ∈ tr, pairOk ops (ms.getD k 0) t o ac = true) ∧ ∀ k' o' ac', k' < k → l[k']? = some o' → acs[k']? = some ac' → pairOk ops (ms.getD k 0) ⟨j + k', o', ac'⟩ o ac = true
  | [], _, _, _, _, _, k, o, ac, h, _ => by simp at h
  | _ :: _, [], _, _, _, _, k, o, ac, _, h => by simp at h
  | o1 :: rest, ac1 :: acs, ms, j, tr, hp, k, o, ac, h, h' => by
    obtain ⟨h1, h2⟩ := hp
    cases k with
    | zero =>
      simp only [List.getElem?_cons_zero, Option.some.injEq] at h h'
      subst h h'
      refine ⟨fun t ht => ?_, fun k' _ _ hk => by omega⟩
      have := h1 t ht
      cases ms <;> simpa using this
    | succ k =>
      obtain ⟨g1, g2⟩ := pairs_at rest acs ms.tail (j + 1) _ h2 k o ac (by simpa using h) (by simpa using h')
      have e : ms.tail.getD k 0 = ms.getD (k + 1) 0 := by cases ms <;> simp
      rw [e] at g1 g2
      refine ⟨fun t ht => g1 t (by simp [ht]), fun k' o' ac' hk h3 h4 => ?_⟩
      cases k' with
      | zero =>
        simp only [List.getElem?_cons_zero, Option.some.injEq] at h3 h4
        subst h3 h4
        simpa using g1 ⟨j, o1, ac1⟩ (by simp)
      | succ k' =>
        have := g2 k' o' ac' (by omega) (by simpa using h3) (by simpa using h4)
        rwa [Nat.add_assoc, Nat.add_comm 1 k'] at this
theorem opVals_congr {o : Oper} {env env' : Nat → AV} (h : ∀ x ∈ o.looksAt ops, env x = env' x) : opVals env o = opVals env' o := by
  unfold opVals
  refine List.map_congr_left fun x hx => ?_
  cases x with
  | tmp t => exact h t (List.mem_append_left _ (List.mem_filterMap.2 ⟨.tmp t, hx, rfl⟩))
  | const v => rfl
  | global g => rfl
  | func f => rfl
theorem wantedA_congr {o : Oper} {env env' : Nat → AV} (h : ∀ x ∈ o.looksAt ops, env x = env' x) : wantedA ops o env = wantedA ops o env' := by
  unfold wantedA
  cases hg : o.guard with
  | none => rfl
  | some gw =>
    obtain ⟨g, want⟩ := gw
    simp only
    cases hd : (ops[g]?).bind (·.dst) with
    | none => rfl
    | some gs =>
      simp only
      rw [h gs (List.mem_append_right _ (by simp [hg, hd]))]
theorem restrict_congr {h h' : Nat → Option Blk} {ns : List Nat} (he : ∀ n ∈ ns, h n = h' n) : restrict h ns = restrict h' ns := by
  funext n
  unfold restrict
  cases hb : ns.any (Nat.beq n)
  · rfl
  · simp only [List.any_eq_true] at hb
    obtain ⟨m, hm, hnm⟩ := hb
    have : n = m := Nat.eq_of_beq_eq_true hnm
    subst this
    exact he _ hm
theorem deep_congr {h h' : Nat → Option Blk} : ∀ {ns : List Nat}, (∀ n ∈ ns, h n = h' n) → deep h ns = deep h' ns
  | [], _ => rfl
  | n :: ns, he => by
    have ih := deep_congr (ns := ns) (fun m hm => he m (by simp [hm]))
    simp only [deep, he n (by simp), ih]
theorem look_congr {o : Oper} {vals : List AV} {h h' : Nat → Option Blk} (he : ∀ n ∈ look o vals h, h n = h' n) : look o vals h = look o vals h' := by
  unfold look
  cases hm : isMove o.op
  · simp only [cond_false]
    rw [deep_congr (fun n hn => he n (by simp [look, hm, hn]))]
  · rfl
theorem opRes1_congr {o : Oper} {vals : List AV} {h h' : Nat → Option Blk} (he : ∀ n ∈ look o vals h, h n = h' n) : opRes1 P C wr o vals h' = opRes1 P C wr o vals h := by
  unfold opRes1
  rw [← look_congr he, restrict_congr (fun n hn => (he n hn).symm)]
theorem deep_hole {h : Nat → Option Blk} {n d : Nat} {t e : Ty} {xs : List t.den} {i off : Nat} : ∀ {ns : List Nat}, n ∈ ns → h n = some (.hole t e xs i off d) → d ∈ deep h ns
  | [], hn, _ => by simp at hn
  | m :: ns, hn, hh => by
    rcases List.mem_cons.1 hn with rfl | hn
    · simp [deep, hh]
    · have := deep_hole hn hh
      simp only [deep]
      split <;> simp [this]
theorem closeOf_congr {h h' : Nat → Option Blk} {n : Nat} (h1 : h n = h' n) (h2 : ∀ t e xs i off d, h n = some (.hole t e xs i off d) → h d = h' d) : closeOf h' n = closeOf h n := by
  unfold closeOf
  rw [← h1]
  split
  · rename_i t e xs i off d hn
    rw [← h2 t e xs i off d hn]
  · rfl
theorem closeN_congr {h h' : Nat → Option Blk} : ∀ {ns : List Nat}, (∀ n ∈ ns, h n = h' n) → (∀ d ∈ deep h ns, h d = h' d) → closeN h' ns = closeN h ns
  | [], _, _ => rfl
  | n :: ns, h1, h2 => by
    have ih := closeN_congr (h := h) (h' := h') (ns := ns) (fun m hm => h1 m (by simp [hm])) (fun d hd => h2 d (by simp only [deep]; split <;> simp [hd]))
    unfold closeN
    rw [closeOf_congr (h1 n (by simp)) (fun t e xs i off d hn => h2 d (deep_hole (by simp) hn)), ih]
theorem closeN_mem {h : Nat → Option Blk} : ∀ {ns : List Nat} {n d : Nat} {B : Blk}, closeN h ns = some (n, B, d) → n ∈ ns
  | [], _, _, _, hc => by simp [closeN] at hc
  | m :: ns, n, d, B, hc => by
    unfold closeN at hc
    split at hc
    · simp only [Option.some.injEq, Prod.mk.injEq] at hc
      exact hc.1 ▸ List.mem_cons_self
    · exact List.mem_cons_of_mem _ (closeN_mem hc)
theorem deep_upd {h : Nat → Option Blk} {n d : Nat} {t : Ty} {xs : List t.den} : ∀ {ns : List Nat}, ∀ m ∈ deep (fun m => findU [(n, Blk.row t xs), (d, Blk.dead)] m (h m)) ns, m ∈ deep h ns
  | [], m, hm => by simp [deep] at hm
  | k :: ns, m, hm => by
    have ih := deep_upd (h := h) (n := n) (d := d) (t := t) (xs := xs) (ns := ns)
    simp only [deep] at hm ⊢
    by_cases e1 : k = n
    · have e3 : findU [(n, Blk.row t xs), (d, Blk.dead)] k (h k) = some (.row t xs) := by rw [findU_two, if_pos e1]
      rw [e3] at hm
      have := ih m hm
      split <;> simp [this]
    · by_cases e2 : k = d
      · have e3 : findU [(n, Blk.row t xs), (d, Blk.dead)] k (h k) = some .dead := by rw [findU_two, if_neg e1, if_pos e2]
        rw [e3] at hm
        have := ih m hm
        split <;> simp [this]
      · have e3 : findU [(n, Blk.row t xs), (d, Blk.dead)] k (h k) = h k := by rw [findU_two, if_neg e1, if_neg e2]
        rw [e3] at hm
        split at hm
        · rcases List.mem_append.1 hm with hm | hm
          · simp [hm]
          · simp [ih m hm]
        · rcases List.mem_cons.1 hm with rfl | hm
          · simp
          · simp [ih m hm]
        · exact ih m hm
theorem opRes_congr {o : Oper} {vals : List AV} {h h' : Nat → Option Blk} (he : ∀ n ∈ look o vals h, h n = h' n) : opRes P C wr o vals h' = opRes P C wr o vals h := by
  unfold opRes
  cases hm : isMove o.op with
  | true =>
    simp only [Bool.not_true, Bool.and_false, cond_false]
    exact opRes1_congr he
  | false =>
    have hn : ∀ n ∈ AV.names.namesL vals, h n = h' n := fun n hn => he n (by simp [look, hm, hn])
    have hdp : ∀ n ∈ deep h (AV.names.namesL vals), h n = h' n := fun n hn => he n (by simp [look, hm, hn])
    simp only [Bool.not_false, Bool.and_true]
    have hc : (bif deepM C then closeN h' (AV.names.namesL vals) else none) = (bif deepM C then closeN h (AV.names.namesL vals) else none) := by rw [closeN_congr hn hdp]
    rw [hc]
    split
    · rename_i n B d hcl
      cases hm2 : deepM C <;> rw [hm2] at hcl <;> simp only [cond_true, cond_false, reduceCtorEq] at hcl
      obtain ⟨t, e, xs, i, off, l, y, _, _, _, _, _, rfl⟩ := closeOf_spec (closeN_spec hcl)
      rw [opRes1_congr (h := fun m => findU [(n, .row (.deep t) (xs.set i y)), (d, .dead)] m (h m)) (h' := fun m => findU [(n, .row (.deep t) (xs.set i y)), (d, .dead)] m (h' m)) (fun m hm' => ?_)]
      have hmm : m ∈ look o vals h := by
        simp only [look, hm, cond_false, List.mem_append] at hm' ⊢
        rcases hm' with h1 | h1 | h1
        · exact .inl h1
        · exact .inr (.inl (deep_upd m h1))
        · exact .inr (.inr h1)
      simp only [he m hmm]
    · exact opRes1_congr he
theorem StepOk.congr {o : Oper} {ac : Ac} {τ τ' : St} (h : StepOk P C wr ops o τ ac) (hn : τ'.nt = τ.nt) (henv : ∀ x ∈ o.looksAt ops, τ.env x = τ'.env x) (hheap : ∀ n ∈ ac.2.2, τ.heap n = τ'.heap n) : StepOk P C wr ops o τ' ac := by
  obtain ⟨hd, h⟩ := h
  have e1 := opVals_congr henv
  have e2 := wantedA_congr henv
  refine ⟨by unfold dstOk at *; rw [hn]; exact hd, ?_⟩
  rw [← e1, ← e2]
  rcases h with ⟨h1, r, h2, h3, h4, h5, h6⟩ | h
  · have e3 := look_congr (o := o) (vals := opVals τ.env o) (h := τ.heap) (h' := τ'.heap) (fun n hn => hheap n (by rw [h5]; exact hn))
    refine .inl ⟨h1, r, ?_, h3, h4, h5.trans e3, h6⟩
    rw [← h2]
    exact opRes_congr fun n hn => hheap n (by rw [h5]; exact hn)
  · exact .inr h
theorem disj_spec {xs ys : List Nat} (h : disj xs ys = true) {n : Nat} (h1 : n ∈ xs) (h2 : n ∈ ys) : False := by
  simp only [disj, List.all_eq_true, Bool.not_eq_true', List.any_eq_false] at h
  exact h n h1 n h2 (by simp)
structure Closed (ops : Array Oper) (L : Array Bool) : Prop where
  size : L.size = ops.size
  edge : ∀ j o e, L.getD j false = true → ops[j]? = some o → e ∈ o.after.toList → Region.binds .any e = true → L.getD e.on false = true
theorem Closed.anc {L : Array Bool} (h : Closed ops L) {i j : Nat} (ha : Anc ops i j) : L.getD j false = true → L.getD i false = true := by
  induction ha with
  | direct h1 he hb hi => intro hj; rw [← hi]; exact h.edge _ _ _ hj h1 he hb
  | trans h1 he hb _ ih => intro hj; exact ih (h.edge _ _ _ hj h1 he hb)
theorem anc_of_ready {L : Array Bool} (h : Closed ops L) {i j : Nat} {o : Oper} (ho : ops[j]? = some o) (hr : ∀ e ∈ o.after.toList, Region.binds .any e = true → L.getD e.on false = true) (ha : Anc ops i j) : L.getD i false = true := by
  cases ha with
  | direct h1 he hb hi =>
    rw [h1] at ho; simp only [Option.some.injEq] at ho; subst ho
    rw [← hi]; exact hr _ he hb
  | trans h1 he hb hi =>
    rw [h1] at ho; simp only [Option.some.injEq] at ho; subst ho
    exact h.anc hi (hr _ he hb)
theorem ready_mem {L : Array Bool} (hs : L.size = ops.size) {j : Nat} : j ∈ Region.ready .any ops L ↔ j < ops.size ∧ L.getD j false = false ∧ ∃ o, ops[j]? = some o ∧ ∀ e ∈ o.after.toList, Region.binds .any e = true → L.getD e.on false = true := by
  unfold Region.ready
  simp only [List.mem_filter, List.mem_range, Bool.and_eq_true, Bool.not_eq_true']
  constructor
  · rintro ⟨h1, h2, h3⟩
    have ho : ops[j]? = some ops[j] := by simp [h1]
    refine ⟨h1, ?_, ops[j], ho, ?_⟩
    · have hj : j < L.size := by omega
      simp only [Array.getD, hj, dif_pos] at h2 ⊢
      exact h2
    · rw [ho] at h3
      simp only [Option.map_some, Option.getD_some, Array.all_eq_true_iff_forall_mem] at h3
      intro e he hb
      have := h3 e (by simpa using he)
      simpa [hb] using this
  · rintro ⟨h1, h2, o, ho, h3⟩
    refine ⟨h1, ?_, ?_⟩
    · have hj : j < L.size := by omega
      simp only [Array.getD, hj, dif_pos] at h2 ⊢
      exact h2
    · rw [ho]
      simp only [Option.map_some, Option.getD_some, Array.all_eq_true_iff_forall_mem]
      intro e he
      cases hb : Region.binds .any e
      · simp
      · simpa using h3 e (by simpa using he) hb
theorem edgesOk_at : ∀ (l : List Oper) (j : Nat), edgesOk l j = true → ∀ k o, l[k]? = some o → ∀ e ∈ o.after.toList, Region.binds .any e = true → e.on < j + k
  | [], _, _, k, _, h => by simp at h
  | o1 :: rest, j, hj, k, o, h => by
    unfold edgesOk at hj
    simp only [Bool.and_eq_true, List.all_eq_true] at hj
    intro e he hb
    cases k with
    | zero =>
      simp only [List.getElem?_cons_zero, Option.some.injEq] at h
      subst h
      have := hj.1 e he
      simpa [hb, Nat.blt, Nat.lt_iff_add_one_le] using this
    | succ k =>
      have := edgesOk_at rest (j + 1) hj.2 k o (by simpa using h) e he hb
      omega
theorem all_of_none {L : Array Bool} (hs : L.size = ops.size) (he : edgesOk ops.toList 0 = true) (hr : Region.ready .any ops L = []) : ∀ j, j < ops.size → L.getD j false = true := by
  intro j
  induction j using Nat.strongRecOn with
  | _ j ih =>
    intro hj
    cases hb : L.getD j false
    · exfalso
      have ho : ops[j]? = some ops[j] := by simp [hj]
      have : j ∈ Region.ready .any ops L := (ready_mem hs).2 ⟨hj, hb, ops[j], ho, fun e hem hbd => by
        have hlt := edgesOk_at ops.toList 0 he j ops[j] (by simp [hj]) e hem hbd
        exact ih e.on (by omega) (by omega)⟩
      rw [hr] at this
      simp at this
    · rfl
theorem drawn_sound {acs : List Ac} (hC : CG P C base w0) (he : edgesOk ops.toList 0 = true) (hrun : Run P C wr ops ops.toList σ acs) (hpairs : Pairs ops ops.toList acs (masks ops.toList []) 0 [])
    (hR : ∀ a' w', Rep base w0 (endSt ops.toList σ acs) a' w' → R .normal a' w') :
    ∀ (fuel : Nat) (L : Array Bool) (a : Act) (w : World), Closed ops L → (L.toList.filter (· = false)).length = fuel → Rep base w0 (stS (fun i => L.getD i false) ops.toList acs 0 σ) a w → wpAny P .any ops R fuel L a w := by
  have hlen := run_length _ _ _ hrun
  have hfinal : ∀ (L : Array Bool) (a : Act) (w : World), (∀ j, j < ops.size → L.getD j false = true) → Rep base w0 (stS (fun i => L.getD i false) ops.toList acs 0 σ) a w → R .normal a w := fun L a w hL h => by
    rw [endSt_eq _ _ _ _ (fun k hk => by simpa using hL k (by simpa using hk))] at h
    exact hR a w h
  have hanc := masks_anc (ops := ops) ops.toList [] (by simp) (by simp)
  intro fuel
  induction fuel with
  | zero =>
    intro L a w hc hf h
    have hall : ∀ j, j < ops.size → L.getD j false = true := fun j hj => by
      have hjl : j < L.size := by rw [hc.size]; exact hj
      cases hb : L.getD j false
      · exfalso
        have : L[j] ∈ L.toList.filter (· = false) := by
          simp only [List.mem_filter, Array.mem_toList_iff, Array.getElem_mem, true_and]
          simp only [Array.getD, hjl, dif_pos] at hb
          simpa using hb
        rw [List.length_eq_zero_iff] at hf
        rw [hf] at this
        simp at this
      · rfl
    refine ⟨?_, hfinal L a w hall h⟩
    cases hrd : Region.ready .any ops L with
    | nil => rfl
    | cons j js =>
      have hj : j ∈ Region.ready .any ops L := by rw [hrd]; simp
      obtain ⟨h1, h2, _⟩ := (ready_mem hc.size).1 hj
      rw [hall j h1] at h2
      simp at h2
  | succ fuel ih =>
    intro L a w hc hf h
    refine ⟨fun hnil => hfinal L a w (all_of_none hc.size he hnil) h, fun j hj => ?_⟩
    obtain ⟨hjs, hjf, o, ho, hpre⟩ := (ready_mem hc.size).1 hj
    obtain ⟨ac, hac, hstep⟩ := run_at ops.toList 0 σ acs hrun j o (by simpa using ho)
    simp only [Nat.zero_add] at hstep
    have hjl : j < L.size := by rw [hc.size]; exact hjs
    -- who touches what j touches comes in order
    have slot : ∀ (x : Nat), (x ∈ o.looksAt ops ∨ o.dst = some x) → ∀ k o', ops.toList[k]? = some o' → o'.dst = some x → k ≠ j → L.getD k false = decide (k < j) := by
      intro x hx k o' hk hd hne
      have hk' : ops[k]? = some o' := by simpa using hk
      have hkl : k < acs.length := by
        rw [hlen]
        rcases Nat.lt_or_ge k ops.toList.length with h | h
        · exact h
        · rw [List.getElem?_eq_none h] at hk; simp at hk
      have hack : acs[k]? = some acs[k] := by simp [hkl]
      rcases Nat.lt_or_gt_of_ne hne with hlt | hgt
      · have := (pairs_at _ _ _ _ _ hpairs j o ac (by simpa using ho) hac).2 k o' _ hlt hk hack
        simp only [pairOk, Nat.zero_add, Bool.or_eq_true, Bool.and_eq_true] at this
        rcases this with hb | ⟨hap, _⟩
        · rw [anc_of_ready hc ho hpre (hanc j k hb)]; simp [hlt]
        · obtain ⟨a1, a2, a3⟩ := Oper.apart_spec hap
          rcases hx with hx | hx
          · exact absurd hx (a1 x hd)
          · exact absurd hx (a2 x hd)
      · have := (pairs_at _ _ _ _ _ hpairs k o' _ hk hack).2 j o ac hgt (by simpa using ho) hac
        simp only [pairOk, Nat.zero_add, Bool.or_eq_true, Bool.and_eq_true] at this
        rcases this with hb | ⟨hap, _⟩
        · cases hLk : L.getD k false
          · simp; omega
          · have := hc.anc (hanc k j hb) hLk
            rw [this] at hjf; simp at hjf
        · obtain ⟨a1, a2, a3⟩ := Oper.apart_spec hap
          rcases hx with hx | hx
          · exact absurd hx (a3 x hd)
          · exact absurd hd (a2 x hx)
    have name : ∀ (n : Nat), (n ∈ ac.2.2 ∨ n ∈ updNames ac.2.1) → ∀ k ac', acs[k]? = some ac' → n ∈ updNames ac'.2.1 → k ≠ j → L.getD k false = decide (k < j) := by
      intro n hx k ac' hack hd hne
      have hkl : k < ops.toList.length := by
        rw [← hlen]
        rcases Nat.lt_or_ge k acs.length with h | h
        · exact h
        · rw [List.getElem?_eq_none h] at hack; simp at hack
      have hk : ops.toList[k]? = some ops.toList[k] := by simp [hkl]
      rcases Nat.lt_or_gt_of_ne hne with hlt | hgt
      · have := (pairs_at _ _ _ _ _ hpairs j o ac (by simpa using ho) hac).2 k _ _ hlt hk hack
        simp only [pairOk, Nat.zero_add, Bool.or_eq_true, Bool.and_eq_true] at this
        rcases this with hb | ⟨_, hd1, hd2⟩
        · rw [anc_of_ready hc ho hpre (hanc j k hb)]; simp [hlt]
        · exact (disj_spec hd1 hd (by simpa using hx)).elim
      · have := (pairs_at _ _ _ _ _ hpairs k _ _ hk hack).2 j o ac hgt (by simpa using ho) hac
        simp only [pairOk, Nat.zero_add, Bool.or_eq_true, Bool.and_eq_true] at this
        rcases this with hb | ⟨_, hd1, hd2⟩
        · cases hLk : L.getD k false
          · simp; omega
          · have := hc.anc (hanc k j hb) hLk
            rw [this] at hjf; simp at hjf
        · rcases hx with hx | hx
          · exact (disj_spec hd2 hd hx).elim
          · exact (disj_spec hd1 hx (by simp [hd])).elim
    have hstep' : StepOk P C wr ops o (stS (fun i => L.getD i false) ops.toList acs 0 σ) ac := by
      refine hstep.congr (by rw [stS_nt, stS_nt]) (fun x hx => ?_) (fun n hn => ?_)
      · refine stS_env _ _ _ _ _ (fun k o' hk hd => ?_) rfl
        simp only [Nat.zero_add]
        by_cases hkj : k = j
        · subst hkj; rw [hjf]; simp
        · exact (slot x (.inl hx) k o' hk hd hkj).symm
      · refine stS_heap _ _ _ _ _ (fun k ac' hk hd => ?_) rfl
        simp only [Nat.zero_add]
        by_cases hkj : k = j
        · subst hkj; rw [hjf]; simp
        · exact (name n (.inl hn) k ac' hk hd hkj).symm
    have hL' : ∀ k, (L.setIfInBounds j true).getD k false = if k = j then true else L.getD k false := fun k => by
      by_cases hk : k = j
      · subst hk; simp [hjl]
      · simp [Array.getElem?_setIfInBounds_ne (Ne.symm hk), hk]
    -- after j, in order
    have hsucc : stS (fun m => decide (m < j + 1)) ops.toList acs 0 σ = (stS (fun m => decide (m < j)) ops.toList acs 0 σ).apply o.dst ac.1 ac.2.1 := by
      have := stS_succ ops.toList acs 0 σ j o ac (by simpa using ho) hac
      simpa using this
    refine step_sound hC ho hstep' h fun a' w' h' => ih _ a' w' ?_ ?_ ?_
    · refine ⟨by simp [hc.size], fun k o' e hk hk' he' hb => ?_⟩
      rw [hL'] at hk ⊢
      split
      · rfl
      · split at hk
        · rename_i hkj
          subst hkj
          rw [ho] at hk'
          simp only [Option.some.injEq] at hk'
          subst hk'
          exact hpre e he' hb
        · exact hc.edge k o' e hk hk' he' hb
    · have := filter_set L.toList j (by simp only [Array.getD, hjl, dif_pos] at hjf; simp [hjl]; exact hjf)
      rw [Array.toList_setIfInBounds]
      omega
    · have hst : stS (fun i => (L.setIfInBounds j true).getD i false) ops.toList acs 0 σ = (stS (fun i => L.getD i false) ops.toList acs 0 σ).apply o.dst ac.1 ac.2.1 := by
        refine st_ext (by rw [apply_nt, stS_nt, stS_nt]) (fun x => ?_) (fun n => ?_)
        · rw [apply_env]
          split
          · rename_i hx
            have := congrArg (fun τ => St.env τ x) hsucc
            simp only [apply_env, if_pos hx] at this
            rw [← this]
            refine stS_env _ _ _ _ _ (fun k o' hk hd => ?_) rfl
            simp only [Nat.zero_add, hL']
            by_cases hkj : k = j
            · subst hkj; simp
            · rw [if_neg hkj, slot x (.inr hx) k o' hk hd hkj]
              simp only [decide_eq_decide]; omega
          · rename_i hx
            refine stS_env _ _ _ _ _ (fun k o' hk hd => ?_) rfl
            simp only [Nat.zero_add, hL']
            rw [if_neg]
            rintro rfl
            have hk' : ops[k]? = some o' := by simpa using hk
            rw [ho] at hk'
            simp only [Option.some.injEq] at hk'
            subst hk'
            exact hx hd
        · rw [apply_heap]
          by_cases hn : n ∈ updNames ac.2.1
          · have := congrArg (fun τ => St.heap τ n) hsucc
            simp only [apply_heap] at this
            rw [findU_mem (z' := (stS (fun m => decide (m < j)) ops.toList acs 0 σ).heap n) hn, ← this]
            refine stS_heap _ _ _ _ _ (fun k ac' hk hd => ?_) rfl
            simp only [Nat.zero_add, hL']
            by_cases hkj : k = j
            · subst hkj; simp
            · rw [if_neg hkj, name n (.inr hn) k ac' hk hd hkj]
              simp only [decide_eq_decide]; omega
          · rw [findU_not hn]
            refine stS_heap _ _ _ _ _ (fun k ac' hk hd => ?_) rfl
            simp only [Nat.zero_add, hL']
            rw [if_neg]
            rintro rfl
            rw [hac] at hk
            simp only [Option.some.injEq] at hk
            subst hk
            exact hn hd
      rw [hst]; exact h'
theorem region_drawn {id : Nat} {k : St → Tree α} (hm : P.follows .mixedOrders = true) (hC : CG P C base w0) (hok : (exRegion P C wr ops true σ k).ok Q) (h : Rep base w0 σ a w)
    (hR : ∀ σ' a' w', σ'.nt = σ.nt → (k σ').ok Q → Rep base w0 σ' a' w' → R .normal a' w') : (Code.region id ops true).wp P R a w := by
  unfold exRegion at hok
  simp only [cond_true] at hok
  cases he : edgesOk ops.toList 0 <;> rw [he] at hok <;> simp only [cond_true, cond_false] at hok
  · exact hok.elim
  · obtain ⟨acs, h1, h2, h3⟩ := exOps_run _ _ _ _ _ _ hok
    refine wp_region_any hm ?_
    have hrep : ∀ i : Nat, (Array.replicate ops.size false).getD i false = false := fun i => by
      simp [Array.getD]
    refine drawn_sound (σ := σ) hC he h1 (h2 rfl) (fun a' w' h' => hR _ a' w' (endSt_nt _ _ _) h3 h') ops.size _ a _ ⟨by simp, fun j o e hj => by rw [hrep] at hj; simp at hj⟩ (by simp [List.filter_replicate]) ?_
    rw [stS_none _ _ _ _ (fun k _ => hrep k)]
    obtain ⟨g1, g2, g3, ref, g4⟩ := h
    exact ⟨g1, g2.drew, g3, ref, g4.grow (Nat.le_refl _) (fun _ _ => rfl)⟩
end
end Sx
end Go.Proofs.Ytemlpimibhijoaa
