/- The plain law of the items of a score: its chords, and its items made in two ways (definitions). Conditions: as each says. -/
import Derived.Test.YtemlpimibhijoaaJmi
import Derived.Test.YtemlpimibhijoaaJkL
set_option linter.unusedSimpArgs false
set_option linter.unusedVariables false
namespace Go.Proofs.Ytemlpimibhijoaa
open Go.RowKit Sx
abbrev Nt := tNote.den
abbrev Nts := List tNote.den
def hdN (g : Nts) : Nt := g.getD 0 tNote.zero
def gAt (gs : List Nts) (i : Nat) : Nts := gs.getD i qNote.zero
/-- One more note of a channel: to the last chord, or a chord of its own. -/
def addN (ch : Int) (gs : List Nts) (n : Nt) : List Nts :=
  if (n.2.2.2.2 : Int) = ch then (if gs ≠ [] ∧ (hdN (gAt gs (gs.length - 1))).1 = n.1 then gs.set (gs.length - 1) (gAt gs (gs.length - 1) ++ [n]) else gs ++ [[n]]) else gs
def chG (ch : Int) : Nts → List Nts → List Nts
  | [], gs => gs
  | n :: t, gs => chG ch t (addN ch gs n)
structure gOk (k : Int) (g : Nts) : Prop where
  lo : 1 ≤ g.length
  hi : (g.length : Int) ≤ k
/-- All notes of a chord are valid. -/
structure goodG (g : Nts) : Prop where
  all : ∀ n ∈ g, noteF n = true
/-- What every chord of a valid score is. -/
structure gOk2 (g : Nts) : Prop where
  lo : 1 ≤ g.length
  hi : g.length ≤ 60
  all : ∀ n ∈ g, noteF n = true
theorem gOk2.hd {g : Nts} (h : gOk2 g) : noteF (hdN g) = true := h.all _ (by rw [hdN, getD_lt _ _ _ (show 0 < g.length from h.lo)]; exact List.getElem_mem _)
theorem gOk2.bd {g : Nts} (h : gOk2 g) : ((1 ≤ (hdN g).1.2 ∧ (hdN g).1.2 ≤ 1000000) ∧ (-1000000000 ≤ (hdN g).1.1 ∧ (hdN g).1.1 ≤ 1000000000)) := (noteF_bd h.hd).1
theorem gOk2.ebd {g : Nts} (h : gOk2 g) : fracBd (endN (hdN g)) := endN_bd h.hd
theorem gOk_mono {k k' : Int} {g : Nts} (h : gOk k g) (hk : k ≤ k') : gOk k' g := ⟨h.lo, Int.le_trans h.hi hk⟩
theorem gAt_mem {Q : Nts → Prop} {gs : List Nts} (h : ∀ g ∈ gs, Q g) (i : Nat) (hi : i < gs.length) : Q (gAt gs i) := h _ (by rw [gAt, getD_lt _ _ _ hi]; exact List.getElem_mem _)
theorem addN_skip {ch : Int} {gs : List Nts} {n : Nt} (h : ¬ (n.2.2.2.2 : Int) = ch) : addN ch gs n = gs := by unfold addN; rw [if_neg h]
theorem addN_new {ch : Int} {gs : List Nts} {n : Nt} (h : (n.2.2.2.2 : Int) = ch) (h2 : gs = [] ∨ ¬ ((hdN (gAt gs (gs.length - 1))).1.1 = n.1.1 ∧ (hdN (gAt gs (gs.length - 1))).1.2 = n.1.2)) : addN ch gs n = gs ++ [[n]] := by
  unfold addN
  rw [if_pos h, if_neg]
  rintro ⟨h3, h4⟩
  rcases h2 with h2 | h2
  · exact h3 h2
  · exact h2 ⟨by rw [h4], by rw [h4]⟩
theorem addN_last {ch : Int} {gs : List Nts} {n : Nt} (h : (n.2.2.2.2 : Int) = ch) (h1 : gs ≠ []) (h2 : (hdN (gAt gs (gs.length - 1))).1.1 = n.1.1 ∧ (hdN (gAt gs (gs.length - 1))).1.2 = n.1.2) : addN ch gs n = gs.set (gs.length - 1) (gAt gs (gs.length - 1) ++ [n]) := by
  unfold addN
  rw [if_pos h, if_pos ⟨h1, Prod.ext h2.1 h2.2⟩]
theorem set_self {α : Type} (l : List α) (k : Nat) (z : α) : l.set k (l.getD k z) = l := by
  apply List.ext_getElem?
  intro j
  rw [List.getElem?_set]
  split
  · rename_i h
    subst h
    split
    · rename_i h; rw [List.getD_eq_getElem?_getD, List.getElem?_eq_getElem h]; rfl
    · rename_i h; rw [List.getElem?_eq_none (by omega)]
  · rfl
theorem addN_ok {ch k : Int} {gs : List Nts} {n : Nt} (hk : 0 ≤ k) (h : ∀ g ∈ gs, gOk k g) : (∀ g ∈ addN ch gs n, gOk (k + 1) g) ∧ (addN ch gs n).length ≤ gs.length + 1 := by
  unfold addN
  split
  · split
    · rename_i hc
      have hl : gs.length - 1 < gs.length := by have := List.length_pos_iff.2 hc.1; omega
      refine ⟨fun g hg => ?_, by simp⟩
      rcases List.mem_or_eq_of_mem_set hg with hg | rfl
      · exact gOk_mono (h g hg) (by omega)
      · have := gAt_mem h _ hl
        exact ⟨by simp, by have := this.hi; simp; omega⟩
    · refine ⟨fun g hg => ?_, by simp⟩
      rcases List.mem_append.1 hg with hg | hg
      · exact gOk_mono (h g hg) (by omega)
      · rw [List.mem_singleton.1 hg]; exact ⟨by simp, by simp; omega⟩
  · exact ⟨fun g hg => gOk_mono (h g hg) (by omega), by omega⟩
theorem chG_at (ch : Int) (xs : Nts) (i : Nat) (gs : List Nts) (h : i < xs.length) : chG ch (xs.drop i) gs = chG ch (xs.drop (i + 1)) (addN ch gs (xs.getD i tNote.zero)) := by
  rw [List.drop_eq_getElem_cons h, getD_lt _ _ _ h]; rfl
/-- A chord of one length and one loudness. -/
def sameN (f n : Nt) : Bool := decide (n.2.1 = f.2.1) && decide ((n.2.2.2.1 : Int) = f.2.2.2.1)
theorem sameN_iff (f n : Nt) : sameN f n = true ↔ (n.2.1.1 = f.2.1.1 ∧ n.2.1.2 = f.2.1.2) ∧ n.2.2.2.1 = f.2.2.2.1 := by
  simp only [sameN, Bool.and_eq_true, decide_eq_true_eq, Prod.ext_iff]
def okCh (g : Nts) : Bool := g.all (sameN (hdN g))
def areGo (gs : List Nts) : Nat → Nat → Bool
  | 0, _ => true
  | c + 1, i => okCh (gAt gs i) && (decide ((gAt gs i).length ≤ 6) && ((decide (i = 0) || decide (0 ≤ cmpF (hdN (gAt gs i)).1.1 (hdN (gAt gs i)).1.2 (endN (hdN (gAt gs (i - 1)))).1 (endN (hdN (gAt gs (i - 1)))).2)) && areGo gs c (i + 1)))
theorem areGo_step (gs : List Nts) (i : Nat) (h : i < gs.length) : areGo gs (gs.length - i) i = (okCh (gAt gs i) && (decide ((gAt gs i).length ≤ 6) && ((decide (i = 0) || decide (0 ≤ cmpF (hdN (gAt gs i)).1.1 (hdN (gAt gs i)).1.2 (endN (hdN (gAt gs (i - 1)))).1 (endN (hdN (gAt gs (i - 1)))).2)) && areGo gs (gs.length - (i + 1)) (i + 1)))) := by
  rw [show gs.length - i = (gs.length - (i + 1)) + 1 by omega]; rfl
def areB (gs : List Nts) : Bool := areGo gs gs.length 0
/-! ### items -/
def itRest (f : Int × Int) : tItem.den := (2, [], f, 0, (0, 0), 0)
def itLoud (v : Int) : tItem.den := (3, [], (0, 0), v, (0, 0), 0)
def itNote (ps : List tPitch.den) (f : Int × Int) : tItem.den := (1, ps, f, 0, (0, 0), 0)
def pN (n : Nt) : tPitch.den := pKey n.2.2.1
def gapI (a b : Int) (f : Nt) : List tItem.den := if f.1 = (a, b) then [] else [itRest (subF f.1.1 f.1.2 a b).1]
def loudI (lo : Int) (f : Nt) : List tItem.den := if (f.2.2.2.1 : Int) = lo then [] else [itLoud f.2.2.2.1]
/-- The program: the items of the chords. -/
def buildGo : List Nts → Int → Int → Int → List tItem.den × Int
  | [], _, _, _ => ([], 0)
  | g :: t, a, b, lo => if (hdN g).1 ≠ (a, b) ∧ (subF (hdN g).1.1 (hdN g).1.2 a b).2 ≠ 0 then ([], (subF (hdN g).1.1 (hdN g).1.2 a b).2) else
      (gapI a b (hdN g) ++ (loudI lo (hdN g) ++ itNote (g.map pN) (hdN g).2.1 :: (buildGo t (endN (hdN g)).1 (endN (hdN g)).2 (hdN g).2.2.2.1).1), (buildGo t (endN (hdN g)).1 (endN (hdN g)).2 (hdN g).2.2.2.1).2)
theorem buildGo_at (gs : List Nts) (i : Nat) (h : i < gs.length) (a b lo : Int) : buildGo (gs.drop i) a b lo = buildGo (gAt gs i :: gs.drop (i + 1)) a b lo := by
  rw [List.drop_eq_getElem_cons h, gAt, getD_lt _ _ _ h]
def implC (gs : List Nts) : List tItem.den × Int := if areB gs = true then (if (buildGo gs 0 1 80).2 = 0 then (if 80 < ((buildGo gs 0 1 80).1.length : Int) then ([], 5) else ((buildGo gs 0 1 80).1, 0)) else ([], (buildGo gs 0 1 80).2)) else ([], 6)
def implI (xs : Nts) (ch : Int) : List tItem.den × Int := if scoreF xs = true then (if inB ch 0 15 = true then implC (chG ch xs []) else ([], 2)) else ([], 1)
/-! ### the reference: one note after the other -/
def iLast (out : List tItem.den) : tItem.den := out.getD (out.length - 1) tItem.zero
def addP (y : tItem.den) (p : tPitch.den) : tItem.den := (y.1, y.2.1 ++ [p], y.2.2)
def gap2 (a b : Int) (n : Nt) : List tItem.den := if 0 < cmpF n.1.1 n.1.2 a b then [itRest (subF n.1.1 n.1.2 a b).1] else []
def lost2 (a b : Int) (n : Nt) (lost : Bool) : Bool := if 0 < cmpF n.1.1 n.1.2 a b then (lost || decide ((subF n.1.1 n.1.2 a b).2 ≠ 0)) else lost
def onNote (ch : Int) (n : Nt) (out : List tItem.den) (a b lo : Int) (lost : Bool) : Option (List tItem.den × (Int × Int) × Int × Bool) :=
  if (n.2.2.2.2 : Int) = ch then
    (if out ≠ [] ∧ ((iLast out).1 : Int) = 1 ∧ (subF a b (iLast out).2.2.1.1 (iLast out).2.2.1.2).1 = n.1 then
      (if (iLast out).2.2.1 = n.2.1 ∧ lo = n.2.2.2.1 ∧ (List.length (iLast out).2.1 : Int) < 6 then some (out.set (out.length - 1) (addP (iLast out) (pN n)), (a, b), lo, lost) else none)
    else if cmpF n.1.1 n.1.2 a b < 0 then none
    else some (out ++ (gap2 a b n ++ (loudI lo n ++ [itNote [pN n] n.2.1])), endN n, n.2.2.2.1, lost2 a b n lost))
  else some (out, (a, b), lo, lost)
def specGo (ch : Int) : Nts → List tItem.den → Int → Int → Int → Bool → Option (List tItem.den × Bool)
  | [], out, _, _, _, lost => some (out, lost)
  | n :: t, out, a, b, lo, lost => match onNote ch n out a b lo lost with
    | some (out', e, lo', lost') => specGo ch t out' e.1 e.2 lo' lost'
    | none => none
theorem specGo_at (ch : Int) (xs : Nts) (i : Nat) (h : i < xs.length) (out : List tItem.den) (a b lo : Int) (lost : Bool) : specGo ch (xs.drop i) out a b lo lost = match onNote ch (xs.getD i tNote.zero) out a b lo lost with
    | some (out', e, lo', lost') => specGo ch (xs.drop (i + 1)) out' e.1 e.2 lo' lost'
    | none => none := by
  rw [List.drop_eq_getElem_cons h, getD_lt _ _ _ h]; rfl
def specC (r : Option (List tItem.den × Bool)) : List tItem.den × Int := match r with
  | none => ([], 6)
  | some (out, lost) => if lost = true then ([], 2) else if 80 < (out.length : Int) then ([], 5) else (out, 0)
def specI (xs : Nts) (ch : Int) : List tItem.den × Int := if scoreF xs = true then (if inB ch 0 15 = true then specC (specGo ch xs [] 0 1 80 false) else ([], 2)) else ([], 1)
theorem spS_key {key : Int} (h : 0 ≤ key ∧ key ≤ 127) : (spellS key 0).1 = pKey key := by
  unfold spellS
  rw [if_pos ⟨(inB_iff _ _ _).2 h, (inB_iff _ _ _).2 (by omega)⟩]
  exact sp_same h
end Go.Proofs.Ytemlpimibhijoaa
