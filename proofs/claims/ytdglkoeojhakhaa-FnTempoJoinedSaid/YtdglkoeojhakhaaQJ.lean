/- Plain law on joined tempo maps, as the law asks. Conditions: as each says. -/
import Derived.Test.YtdglkoeojhakhaaQE
set_option linter.unusedSimpArgs false
set_option linter.unusedVariables false
namespace Go.Proofs.Ytdglkoeojhakhaa
open Go.RowKit Sx
def beatOk (b : Fr) : Prop := okF b.1 b.2 = true ∧ 0 ≤ b.1 ∧ b.1 ≤ 1000 * b.2
theorem A2T_valid {l : List Int} (h : bytesOk l) : tmapF (A2T l).1 = true ∧ beatOk (A2T l).2.1 ∧ beatOk (A2T l).2.2 := by
  have h0 := from_ok h
  have h1 := tmapS_ok h0
  have h2 := beatS_ok h1 10
  exact ⟨tmapS_valid h0, beat_valid h1 (by omega), beat_valid h2 (by omega)⟩
theorem join_code {ts us : List tTempo.den} {a : Fr} (h1 : tmapF ts = true) (h2 : tmapF us = true) (ha : beatOk a) : (joinF ts a.1 a.2 us).2 = 0 ∨ (joinF ts a.1 a.2 us).2 = 5 ∨ (joinF ts a.1 a.2 us).2 = 2 := by
  have hb : bcF [ts, us] (a.1, a.2) = 0 := bcF_full h1 h2 ha.1 (by simp [ha.2.1, ha.2.2])
  unfold joinF
  rw [if_neg (by omega)]
  unfold tendF
  split
  · exact .inr (.inl rfl)
  · split
    · exact .inl rfl
    · exact .inr (.inr rfl)
theorem law_low {ts us : List tTempo.den} {a b : Fr} (hj : (joinF ts a.1 a.2 us).2 = 0) (ha : beatOk a) (hb : beatOk b)
    (hx : (posF (joinF ts a.1 a.2 us).1 b).2 = 0) (hy : (posF ts b).2 = 0) (hc : cmpF b.1 b.2 a.1 a.2 ≤ 0) : (posF (joinF ts a.1 a.2 us).1 b).1 = (posF ts b).1 := by
  obtain ⟨j1, _⟩ := join_pos hj
  have x := posF_q hx
  have y := posF_q hy
  refine qF_inj x.2.1 y.2.1 ?_
  rw [x.2.2, y.2.2]
  refine j1 _ (qF_nonneg hb.1 hb.2.1) ?_
  have := cmp_q (a := b) (b := a) hb.1 ha.1
  have hc' : ¬ 0 < cmpB b a := by show ¬ 0 < cmpF b.1 b.2 a.1 a.2; omega
  have : ¬ qF a < qF b := fun hh => hc' (this.mpr hh)
  grind
theorem law_high {ts us : List tTempo.den} {a b : Fr} (hj : (joinF ts a.1 a.2 us).2 = 0) (ha : beatOk a) (hb : beatOk b)
    (hx : (posF (joinF ts a.1 a.2 us).1 b).2 = 0) (hm : (posF ts a).2 = 0) (hc : 0 < cmpF b.1 b.2 a.1 a.2)
    (hd : (subF b.1 b.2 a.1 a.2).2 = 0) (hy : (posF us (subF b.1 b.2 a.1 a.2).1).2 = 0)
    (hz : (addF (posF ts a).1.1 (posF ts a).1.2 (posF us (subF b.1 b.2 a.1 a.2).1).1.1 (posF us (subF b.1 b.2 a.1 a.2).1).1.2).2 = 0) :
    (posF (joinF ts a.1 a.2 us).1 b).1 = (addF (posF ts a).1.1 (posF ts a).1.2 (posF us (subF b.1 b.2 a.1 a.2).1).1.1 (posF us (subF b.1 b.2 a.1 a.2).1).1.2).1 := by
  obtain ⟨_, j2⟩ := join_pos hj
  have x := posF_q hx
  have m := posF_q hm
  have y := posF_q hy
  have z := (addF_ok m.2.1 y.2.1).resolve_right (by omega)
  refine qF_inj x.2.1 z.2 ?_
  rw [x.2.2, addF_q m.2.1 y.2.1 hz, m.2.2, y.2.2, subF_q hb.1 ha.1 hd]
  refine j2 _ ?_
  have := (cmp_q (a := b) (b := a) hb.1 ha.1).mp hc
  grind
end Go.Proofs.Ytdglkoeojhakhaa
