/- Contract: impl.chordIntervals. Conditions: as it says. -/
import Derived.Test.YtkeckmdmmbeaiaaDoorXf
import Derived.MapKept
import Derived.Carry
set_option linter.unusedSimpArgs false
set_option linter.unusedVariables false
namespace Go.Proofs.YtkeckmdmmbeaiaaDoor
open Go.RowKit Sx Go.Shelf
/-- The chords. -/
def chordL : List (List UInt8 × List UInt8) := [([109, 97, 106], [77, 51, 32, 80, 53]), ([109, 105, 110], [109, 51, 32, 80, 53]), ([100, 105, 109], [109, 51, 32, 100, 53]), ([97, 117, 103], [77, 51, 32, 65, 53]), ([115, 117, 115, 52], [80, 52, 32, 80, 53]), ([100, 111, 109, 55], [77, 51, 32, 80, 53, 32, 109, 55]), ([109, 97, 106, 55], [77, 51, 32, 80, 53, 32, 77, 55]), ([109, 105, 110, 55], [109, 51, 32, 80, 53, 32, 109, 55]), ([100, 105, 109, 55], [109, 51, 32, 100, 53, 32, 100, 55]), ([115, 105, 120], [77, 51, 32, 80, 53, 32, 77, 54])]
def asT (s : List UInt8) : List (List UInt8 × List UInt8) → Option (List UInt8)
  | [] => none
  | p :: r => if p.1 = s then some p.2 else asT s r
def chordT (s : List UInt8) : Option (List UInt8) := asT s chordL
def entL : Nat → List (List UInt8 × List UInt8) → List MapEntry
  | _, [] => []
  | i, p :: r => { key := .string ⟨p.1.toArray⟩, val := .string ⟨p.2.toArray⟩, born := i } :: entL (i + 1) r
def entW (w : World) (n : Nat) : World := w.alloc (.map (entL 0 (chordL.take n)).toArray n)
theorem beq_mk (a b : List UInt8) : ((⟨a.toArray⟩ : ByteArray) == ⟨b.toArray⟩) = decide (a = b) := by
  have e : ((⟨a.toArray⟩ : ByteArray) == ⟨b.toArray⟩) = (a.toArray == b.toArray) := rfl
  rw [e, Bool.eq_iff_iff]; simp
theorem set_push {α : Type} (a : Array α) (x y : α) : (a.push x).setIfInBounds a.size y = a.push y := by
  apply Array.ext
  · simp
  · intro i h1 h2
    simp only [Array.size_push] at h2
    rw [Array.getElem_setIfInBounds, Array.getElem_push]
    split
    · rename_i h; subst h; simp
    · rw [Array.getElem_push]; split <;> first | rfl | omega
    · simp; omega
theorem find_ent (s : List UInt8) : ∀ (L : List (List UInt8 × List UInt8)) (i j : Nat), ∃ k, Instr.findNow .string (.string ⟨s.toArray⟩) (entL i L) j = some ((asT s L).map fun v => (k, .string ⟨v.toArray⟩))
  | [], i, j => ⟨0, rfl⟩
  | p :: r, i, j => by
    obtain ⟨k, hk⟩ := find_ent s r (i + 1) (j + 1)
    have hb := beq_mk s p.1
    by_cases h : p.1 = s
    · refine ⟨j, ?_⟩
      rw [decide_eq_true h.symm] at hb
      simp only [entL, Instr.findNow, Instr.sameNow, hb, asT]
      rw [if_pos h]
      rfl
    · refine ⟨k, ?_⟩
      rw [decide_eq_false (fun e => h e.symm)] at hb
      simp only [entL, Instr.findNow, Instr.sameNow, hb, asT]
      rw [if_neg h]
      exact hk
theorem asT_none {s : List UInt8} : ∀ {L : List (List UInt8 × List UInt8)}, (L.all fun p => !decide (p.1 = s)) = true → asT s L = none
  | [], _ => rfl
  | p :: r, h => by
    simp only [List.all_cons, Bool.and_eq_true, Bool.not_eq_true', decide_eq_false_iff_not] at h
    rw [asT, if_neg h.1, asT_none h.2]
theorem entL_push : ∀ (L : List (List UInt8 × List UInt8)) (p : List UInt8 × List UInt8) (i : Nat), entL i L ++ [{ key := .string ⟨p.1.toArray⟩, val := .string ⟨p.2.toArray⟩, born := i + L.length }] = entL i (L ++ [p])
  | [], p, i => rfl
  | q :: r, p, i => by
    have := entL_push r p (i + 1)
    simp only [entL, List.cons_append, List.length_cons] at this ⊢
    rw [show i + (r.length + 1) = i + 1 + r.length by omega, this]
/-- A pair goes in. -/
theorem run_ins (w : World) (n : Nat) (hn : n < chordL.length) (hk : ((chordL.take n).all fun p => !decide (p.1 = (chordL[n]).1)) = true) :
    (Instr.mapUpdate 163 (.map (some w.heap.size)) (.string ⟨(chordL[n]).1.toArray⟩) (.string ⟨(chordL[n]).2.toArray⟩)).run Tryd.prog (entW w n) = .ok () (entW w (n + 1)) := by
  obtain ⟨k, hf⟩ := find_ent (chordL[n]).1 (chordL.take n) 0 0
  rw [asT_none hk] at hf
  have hb : (entW w n).heap[w.heap.size]? = some (.map (entL 0 (chordL.take n)).toArray n) := by
    show (w.heap.push _)[w.heap.size]? = _
    exact Array.getElem?_push_size
  have hl : (chordL.take n).length = n := by rw [List.length_take]; omega
  have hp := entL_push (chordL.take n) (chordL[n]) 0
  rw [hl, Nat.zero_add, List.take_append_getElem hn] at hp
  have hw : ({ entW w n with heap := (entW w n).heap.setIfInBounds w.heap.size (.map (entL 0 (chordL.take (n + 1))).toArray (n + 1)) } : World) = entW w (n + 1) := by
    show ({ w with heap := (w.heap.push _).setIfInBounds w.heap.size _ } : World) = { w with heap := w.heap.push _ }
    rw [set_push]
  have u1 := run_underlying Tryd.underlying163
  have u2 := run_underlying Tryd.underlying9
  have hg := Go.MapKept.run_getObj_map (P := Tryd.prog) hb
  have hc : ∀ e b W, (Instr.checkKey e 10000 9 (.string b)).run Tryd.prog W = .ok () W := fun e b W => by
    show (Instr.checkKey e (9999 + 1) _ _).run _ _ = _
    rw [Instr.checkKey]; simp [u2]
  unfold Instr.mapUpdate Instr.findKey
  simp only [Sem.run_bind, u1, Result.andThen_ok, hg, hc, u2, Sem.run_pure, List.toList_toArray, hf, Option.map_none]
  simp only [setObj, Sem.run, hb, List.push_toArray, hp]
  first | exact congrArg (Result.ok ()) hw | (simp; exact hw)
/-- A name is looked for. -/
theorem run_look (w : World) (s : List UInt8) :
    (Instr.lookup 163 (.map (some w.heap.size)) (.string ⟨s.toArray⟩) true).run Tryd.prog (entW w 10) = .ok (.tuple #[.string ⟨((chordT s).getD []).toArray⟩, .bool (chordT s).isSome]) (entW w 10) := by
  obtain ⟨k, hf⟩ := find_ent s chordL 0 0
  have hb : (entW w 10).heap[w.heap.size]? = some (.map (entL 0 chordL).toArray 10) := by
    show (w.heap.push _)[w.heap.size]? = _
    exact Array.getElem?_push_size
  have u1 := run_underlying Tryd.underlying163
  have u2 := run_underlying Tryd.underlying9
  have hg := Go.MapKept.run_getObj_map (P := Tryd.prog) hb
  have hc : ∀ e b W, (Instr.checkKey e 10000 9 (.string b)).run Tryd.prog W = .ok () W := fun e b W => by
    show (Instr.checkKey e (9999 + 1) _ _).run _ _ = _
    rw [Instr.checkKey]; simp [u2]
  have hz := Tryd.zeroValue9
  unfold Instr.lookup Instr.findKey
  simp only [Sem.run_bind, u1, Result.andThen_ok, hg, hc, u2, Sem.run_pure, List.toList_toArray, hf]
  unfold chordT
  cases asT s chordL with
  | some v => simp
  | none => simp [hz]
set_option maxRecDepth 100000 in
set_option maxHeartbeats 4000000 in
theorem chord_walk (s : List UInt8) (w : World) :
    Calls Tryd.prog 86 #[.string ⟨s.toArray⟩] w fun e w' => e = .returned (.tuple #[.string ⟨((chordT s).getD []).toArray⟩, .bool (chordT s).isSome]) ∧ Below w.heap.size w w' := by
  have hmm : (Instr.makeMap 163 none).run Tryd.prog w = .ok (.map (some w.heap.size)) (entW w 0) := rfl
  have h0 : (Instr.mapUpdate 163 (.map (some w.heap.size)) (.string ⟨#[109, 97, 106]⟩) (.string ⟨#[77, 51, 32, 80, 53]⟩)).run Tryd.prog (entW w 0) = .ok () (entW w 1) := run_ins w 0 (by decide) (by decide)
  have h1 : (Instr.mapUpdate 163 (.map (some w.heap.size)) (.string ⟨#[109, 105, 110]⟩) (.string ⟨#[109, 51, 32, 80, 53]⟩)).run Tryd.prog (entW w 1) = .ok () (entW w 2) := run_ins w 1 (by decide) (by decide)
  have h2 : (Instr.mapUpdate 163 (.map (some w.heap.size)) (.string ⟨#[100, 105, 109]⟩) (.string ⟨#[109, 51, 32, 100, 53]⟩)).run Tryd.prog (entW w 2) = .ok () (entW w 3) := run_ins w 2 (by decide) (by decide)
  have h3 : (Instr.mapUpdate 163 (.map (some w.heap.size)) (.string ⟨#[97, 117, 103]⟩) (.string ⟨#[77, 51, 32, 65, 53]⟩)).run Tryd.prog (entW w 3) = .ok () (entW w 4) := run_ins w 3 (by decide) (by decide)
  have h4 : (Instr.mapUpdate 163 (.map (some w.heap.size)) (.string ⟨#[115, 117, 115, 52]⟩) (.string ⟨#[80, 52, 32, 80, 53]⟩)).run Tryd.prog (entW w 4) = .ok () (entW w 5) := run_ins w 4 (by decide) (by decide)
  have h5 : (Instr.mapUpdate 163 (.map (some w.heap.size)) (.string ⟨#[100, 111, 109, 55]⟩) (.string ⟨#[77, 51, 32, 80, 53, 32, 109, 55]⟩)).run Tryd.prog (entW w 5) = .ok () (entW w 6) := run_ins w 5 (by decide) (by decide)
  have h6 : (Instr.mapUpdate 163 (.map (some w.heap.size)) (.string ⟨#[109, 97, 106, 55]⟩) (.string ⟨#[77, 51, 32, 80, 53, 32, 77, 55]⟩)).run Tryd.prog (entW w 6) = .ok () (entW w 7) := run_ins w 6 (by decide) (by decide)
  have h7 : (Instr.mapUpdate 163 (.map (some w.heap.size)) (.string ⟨#[109, 105, 110, 55]⟩) (.string ⟨#[109, 51, 32, 80, 53, 32, 109, 55]⟩)).run Tryd.prog (entW w 7) = .ok () (entW w 8) := run_ins w 7 (by decide) (by decide)
  have h8 : (Instr.mapUpdate 163 (.map (some w.heap.size)) (.string ⟨#[100, 105, 109, 55]⟩) (.string ⟨#[109, 51, 32, 100, 53, 32, 100, 55]⟩)).run Tryd.prog (entW w 8) = .ok () (entW w 9) := run_ins w 8 (by decide) (by decide)
  have h9 : (Instr.mapUpdate 163 (.map (some w.heap.size)) (.string ⟨#[115, 105, 120]⟩) (.string ⟨#[77, 51, 32, 80, 53, 32, 77, 54]⟩)).run Tryd.prog (entW w 9) = .ok () (entW w 10) := run_ins w 9 (by decide) (by decide)
  have hlk := run_look w s
  go_enter Tryd.func86, Tryd.ntmps86
  go_wp2
  exact bodyPost_ret (v := .tuple #[.string ⟨((chordT s).getD []).toArray⟩, .bool (chordT s).isSome]) (by simp [results, Tryd.results86, go_sem]) rfl ⟨rfl, (Below.refl _ _).alloc (Nat.le_refl _) _⟩
/-- The intervals of a chord. -/
def ct_chordI : Ct := ctOf [.v .str] (fun _ => .tt) (fun ((s : List UInt8), _) => .tup [.str ((chordT s).getD []), .bool (chordT s).isSome])
theorem sat_chordI : Sat Tryd.prog 86 ct_chordI := by
  intro args p v hct hp w okc vs hgood hden
  simp only at hct
  split at hct
  · rename_i x hx
    change some (_, _) = some (p, v) at hct
    simp only [Option.some.injEq, Prod.mk.injEq] at hct
    obtain ⟨rfl, rfl⟩ := hct
    have hd := decA_den rfl hx hden
    obtain ⟨(s : List UInt8), _⟩ := x
    obtain ⟨r1, _, rfl, g1, rfl⟩ := hd
    have g1 : r1 = .string ⟨s.toArray⟩ := g1
    subst g1
    exact calls_plain (r := .tuple #[.string ⟨((chordT s).getD []).toArray⟩, .bool (chordT s).isSome]) (fun c => ⟨[_, _], rfl, _, _, rfl, rfl, _, _, rfl, rfl, rfl⟩) rfl (chord_walk s w)
  · simp at hct
end Go.Proofs.YtkeckmdmmbeaiaaDoor
