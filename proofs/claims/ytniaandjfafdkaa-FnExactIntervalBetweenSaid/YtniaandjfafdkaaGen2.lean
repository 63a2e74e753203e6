/- Small lemmas, continued: a region that stores into the result's own block. Conditions: as each says. -/
import Derived.Test.YtniaandjfafdkaaGen
import Derived.Deep.DeepCutAuto
namespace Go.Proofs.Ytniaandjfafdkaa
open Go.RowKit

theorem Past.alloc0 (W : World) (o : Obj) : Past (W.alloc o) (W.alloc o) := Past.refl _
theorem Past.alloc0d (W : World) (o : Obj) : Past (W.alloc o).drew (W.alloc o).drew := Past.refl _
theorem Kept.alloc0 (W : World) (o : Obj) : Kept W (W.alloc o) := .of ((Below.refl _ _).alloc (Nat.le_refl _) o)
/-- What a cell holds, closed to the walk. -/
def cellVal (w : World) (a : Addr) : Value := (w.cell? a).getD undef
/-- Blocks below N are as in W; block N has n cells that may be written. -/
abbrev KeptR (N n : Nat) (W w' : World) : Prop := (∀ b o, b < N → w'.cell? ⟨b, o, none⟩ = W.cell? ⟨b, o, none⟩) ∧ (∀ b o, b < N → w'.frozen? ⟨b, o, none⟩ = W.frozen? ⟨b, o, none⟩) ∧ N < w'.heap.size ∧
  (∀ o, o < n → w'.cell? ⟨N, o, none⟩ = some (cellVal w' ⟨N, o, none⟩)) ∧ (∀ o, w'.frozen? ⟨N, o, none⟩ = false) ∧ Hid (Below N W w')
theorem bcellN {N : Nat} {W w1 : World} (hb : Below N W w1) : (∀ b o, b < N → w1.cell? ⟨b, o, none⟩ = W.cell? ⟨b, o, none⟩) ∧ (∀ b o, b < N → w1.frozen? ⟨b, o, none⟩ = W.frozen? ⟨b, o, none⟩) :=
  ⟨fun b o h => hb.cell (p := ⟨b, o, none⟩) h, fun b o h => hb.frozen (p := ⟨b, o, none⟩) h⟩
theorem cellVal_of {w : World} {a : Addr} {v : Value} (h : w.cell? a = some v) : w.cell? a = some (cellVal w a) := by rw [cellVal, h]; rfl
theorem KeptR.start {N n : Nat} {W : World} (hs : N < W.heap.size) (hc : ∀ o, o < n → ∃ v, W.cell? ⟨N, o, none⟩ = some v) (hf : ∀ o, W.frozen? ⟨N, o, none⟩ = false) : KeptR N n W W.drew :=
  ⟨fun _ _ _ => rfl, fun _ _ _ => rfl, hs, fun o ho => by obtain ⟨v, hv⟩ := hc o ho; exact cellVal_of (w := W.drew) hv, hf, (Below.refl _ _).drew⟩
theorem KeptR.below {N n : Nat} {W w' : World} (h : KeptR N n W w') : Below N W w' := h.2.2.2.2.2
theorem KeptR.keep {N n : Nat} {W W1 w1 : World} (hb : Below W1.heap.size W1 w1) (h : KeptR N n W W1) : KeptR N n W w1 := by
  obtain ⟨h1, h2, h3, h4, h5, h6⟩ := h
  have hB : Below N W w1 := (Hid.out h6).trans (hb.mono (Nat.le_of_lt h3))
  refine ⟨(bcellN hB).1, (bcellN hB).2, Nat.lt_of_lt_of_le h3 hb.size, fun o ho => ?_, fun o => ?_, hB⟩
  · exact cellVal_of ((hb.cell (p := ⟨N, o, none⟩) h3).trans (h4 o ho))
  · exact (hb.frozen (p := ⟨N, o, none⟩) h3).trans (h5 o)
theorem KeptR.alloc {N n : Nat} {W w1 : World} (h : KeptR N n W w1) (o : Obj) : KeptR N n W (w1.alloc o) :=
  h.keep ((Below.refl _ _).alloc (Nat.le_refl _) o)
theorem KeptR.set {N n : Nat} {W w1 : World} (h : KeptR N n W w1) {p : Addr} (hp : p.block = N) (hs : p.spot = none) (ho : p.off < n) (u : Value) : KeptR N n W (w1.setCell p u) := by
  obtain ⟨h1, h2, h3, h4, h5, h6⟩ := h
  have hB : Below N W (w1.setCell p u) := (Hid.out h6).setCell (by omega) u
  refine ⟨(bcellN hB).1, (bcellN hB).2, by simpa [World.setCell] using h3, fun o hn => ?_, fun o => ?_, hB⟩
  · by_cases he : o = p.off
    · obtain ⟨b, off, sp⟩ := p
      simp only at hp hs ho he
      subst hp hs he
      have h0 := h4 o hn
      have : (w1.setCell ⟨b, o, none⟩ u).cell? ⟨b, o, none⟩ = some u := by simp [go_sem, h0]
      exact cellVal_of this
    · have hne : p ≠ ⟨N, o, none⟩ := by rintro rfl; exact he rfl
      exact cellVal_of ((World.cell?_setCell_other w1 p ⟨N, o, none⟩ u hne).trans (h4 o hn))
  · have := h5 o
    simp [go_sem, this]
theorem KeptR.drew {N n : Nat} {W w1 : World} (h : KeptR N n W w1) : KeptR N n W w1.drew := by
  obtain ⟨h1, h2, h3, h4, h5, h6⟩ := h
  exact ⟨h1, h2, h3, fun o ho => cellVal_of (w := w1.drew) (h4 o ho), h5, (Hid.out h6).drew⟩
theorem fin3 {N n : Nat} {w W w1 : World} (h : Hid (Below w.heap.size w W)) (hN : w.heap.size ≤ N) (hp : KeptR N n W w1) : Below w.heap.size w w1 := h.out.trans (hp.below.mono hN)
theorem fin4 {N : Nat} {w W w1 : World} (h : Hid (Below w.heap.size w W)) (hp : Hid (Below N W w1)) (hN : w.heap.size ≤ N) : Below w.heap.size w w1 := h.out.trans (hp.out.mono hN)
end Go.Proofs.Ytniaandjfafdkaa
