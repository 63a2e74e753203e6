/- The plain law of the items of a score: the program and the reference make the same. Conditions: as each says. -/
import Derived.Test.YtemlpimibhijoaaJiL
import Derived.Test.YtemlpimibhijoaaQL
set_option linter.unusedSimpArgs false
set_option linter.unusedVariables false
namespace Go.Proofs.Ytemlpimibhijoaa
open Go.RowKit Sx
/-- A fraction is made where a valid one of the same value is. -/
theorem mkF_of {x : Fr} {n d : Int} (hx : okF x.1 x.2 = true) (hd : 0 < d) (h : x.1 * d = n * x.2) : mkF n d = (x, 0) := by
  have hb := okF_bd hx
  have hx' := hx
  simp only [okF, Bool.and_eq_true, inB_iff, beq_iff_eq] at hx'
  have gx : Int.gcd x.1 x.2 = 1 := by have := hx'.2.2; omega
  have dv : x.2 ∣ d := by
    have : x.2 ∣ d * x.1 := ⟨n, by rw [Int.mul_comm d, h, Int.mul_comm]⟩
    exact int_cop gx this
  obtain ⟨g, hg⟩ := dv
  have hgp : 0 < g := by
    rcases Int.lt_or_le 0 g with h1 | h1
    · exact h1
    · have : x.2 * g ≤ 0 := Int.mul_nonpos_of_nonneg_of_nonpos (by omega) h1
      omega
  have hn : n = g * x.1 := by
    rw [hg] at h
    have h2 : x.2 * n = x.2 * (g * x.1) := by grind
    exact Int.eq_of_mul_eq_mul_left (by omega) h2
  have hG : (Int.gcd n d : Int) = g := by
    rw [hn, hg, Int.mul_comm x.2 g, Int.gcd_mul_left, gx]
    omega
  have hm := mkF_pos n d (by omega)
  rw [hG] at hm
  have e1 : (n.natAbs : Int) / g = (x.1.natAbs : Int) := by
    rw [hn, Int.natAbs_mul]
    have : ((g.natAbs * x.1.natAbs : Nat) : Int) = g * (x.1.natAbs : Int) := by rw [Int.natCast_mul]; congr 1; omega
    rw [this]
    exact Int.mul_ediv_cancel_left _ (by omega)
  have e2 : (d.natAbs : Int) / g = x.2 := by
    rw [show (d.natAbs : Int) = d by omega, hg]
    exact Int.mul_ediv_cancel _ (by omega)
  rw [e1, e2, if_neg (by omega)] at hm
  rw [hm, show decide (d < 0) = false by simp; omega]
  by_cases h0 : x.1 < 0
  · have : n < 0 := by rw [hn]; exact Int.mul_neg_of_pos_of_neg hgp h0
    rw [decide_eq_true this]
    simp only [Bool.true_bne, Bool.not_false, if_true]
    exact Prod.ext (Prod.ext (by simp only; omega) rfl) rfl
  · have : ¬ n < 0 := by rw [hn]; have := Int.mul_nonneg (a := g) (b := x.1) (by omega) (by omega); omega
    rw [decide_eq_false this]
    simp only [bne_self_eq_false, Bool.false_eq_true, if_false]
    exact Prod.ext (Prod.ext (by simp only; omega) rfl) rfl
theorem opF_of {x : Fr} {n d : Int} (hx : okF x.1 x.2 = true) (hd : 0 < d) (h : qF x = (n : Rat) / (d : Rat)) : opF n d true = (x, 0) := by
  have e : opF n d true = mkF n d := by unfold opF; rfl
  rw [e]
  refine mkF_of hx hd ?_
  have h1 := (okF_den hx).1
  have h2 := cast_ne (show d ≠ 0 by omega)
  unfold qF at h
  have : (x.1 : Rat) * (d : Rat) = (n : Rat) * (x.2 : Rat) := by grind
  exact_mod_cast this
theorem subF_of {a b x : Fr} (ha : okF a.1 a.2 = true) (hb : okF b.1 b.2 = true) (hx : okF x.1 x.2 = true) (h : qF x = qF a - qF b) : subF a.1 a.2 b.1 b.2 = (x, 0) := by
  unfold subF
  rw [ha, hb]
  refine opF_of hx (Int.mul_pos (okF_den ha).2 (okF_den hb).2) ?_
  rw [h]
  have h1 := (okF_den ha).1
  have h2 := (okF_den hb).1
  unfold qF
  simp only [Rat.intCast_mul, Rat.intCast_sub]
  grind
theorem snoc_cases (gs : List Nts) : gs = [] ∨ ∃ hs g, gs = hs ++ [g] := by
  rcases List.eq_nil_or_concat gs with h | ⟨hs, g, h⟩
  · exact .inl h
  · exact .inr ⟨hs, g, by rw [h, List.concat_eq_append]⟩
/-! ### ends of notes -/
theorem note_ok {n : Nt} (h : noteF n = true) : okF n.1.1 n.1.2 = true ∧ okF n.2.1.1 n.2.1.2 = true ∧ (addF n.1.1 n.1.2 n.2.1.1 n.2.1.2).2 = 0 ∧ 0 ≤ (n.1.1 : Int) := by
  simp only [noteF, beatF, Bool.and_eq_true, decide_eq_true_eq] at h
  exact ⟨h.1.1, h.2.1.1, h.2.2.2.1, h.1.2.1⟩
theorem end_ok {n : Nt} (h : noteF n = true) : okF (endN n).1 (endN n).2 = true := by
  obtain ⟨h1, h2, h3, _⟩ := note_ok h
  rcases addF_ok h1 h2 with h4 | h4
  · exact h4.2
  · omega
theorem sub_end {n : Nt} (h : noteF n = true) : (subF (endN n).1 (endN n).2 n.2.1.1 n.2.1.2).1 = n.1 := by
  obtain ⟨h1, h2, h3, _⟩ := note_ok h
  have h4 := addF_q (a := n.1) (b := n.2.1) h1 h2 h3
  have h5 := subF_of (a := endN n) (b := n.2.1) (x := n.1) (end_ok h) h2 h1 (by
    have e : qF (endN n) = qF n.1 + qF n.2.1 := h4
    rw [e]; grind)
  rw [h5]
theorem cmp_pos {x y : Int × Int} (hx : okF x.1 x.2 = true) (hy : okF y.1 y.2 = true) (h : 0 ≤ cmpF x.1 x.2 y.1 y.2) : 0 < cmpF x.1 x.2 y.1 y.2 ↔ ¬ x = y := by
  have hc := qF_cross (a := x) (b := y) hx hy
  have he : x = y ↔ x.1 * y.2 = y.1 * x.2 := ⟨fun e => by rw [e], fun e => qF_inj hx hy (hc.2 e)⟩
  rw [he]
  unfold cmpF at h ⊢
  split at h
  · omega
  · rw [if_neg (by omega)]
    split at h
    · rw [if_pos (by assumption)]; omega
    · rw [if_neg (by assumption)]; omega
theorem cmpF_first (a b : Int) (h : 0 ≤ a) : 0 ≤ cmpF a b 0 1 := by
  unfold cmpF
  rw [if_neg (by omega)]
  split <;> omega
theorem cmp_first {n : Nt} (h : noteF n = true) : 0 ≤ cmpF n.1.1 n.1.2 0 1 := cmpF_first _ _ (note_ok h).2.2.2
/-! ### chords -/
structure gV (g : Nts) : Prop where
  lo : 1 ≤ g.length
  all : ∀ n ∈ g, noteF n = true
theorem gV.hd {g : Nts} (h : gV g) : noteF (hdN g) = true := h.all _ (by rw [hdN, getD_lt _ _ _ (show 0 < g.length from h.lo)]; exact List.getElem_mem _)
theorem hdN_app {g t : Nts} (h : 1 ≤ g.length) : hdN (g ++ t) = hdN g := by
  unfold hdN
  rw [List.getD_eq_getElem?_getD, List.getD_eq_getElem?_getD, List.getElem?_append_left (by omega)]
theorem gAt_left {gs hs : List Nts} {j : Nat} (h : j < gs.length) : gAt (gs ++ hs) j = gAt gs j := by
  unfold gAt
  rw [List.getD_eq_getElem?_getD, List.getD_eq_getElem?_getD, List.getElem?_append_left h]
theorem gAt_end {gs : List Nts} {g : Nts} : gAt (gs ++ [g]) gs.length = g := by
  unfold gAt
  rw [List.getD_eq_getElem?_getD, List.getElem?_append_right (Nat.le_refl _), Nat.sub_self]; rfl
def bodyP (l : List Nts) (j : Nat) : Prop := okCh (gAt l j) = true ∧ (gAt l j).length ≤ 6 ∧ (j = 0 ∨ 0 ≤ cmpF (hdN (gAt l j)).1.1 (hdN (gAt l j)).1.2 (endN (hdN (gAt l (j - 1)))).1 (endN (hdN (gAt l (j - 1)))).2)
theorem areGo_iff (l : List Nts) : ∀ c i, areGo l c i = true ↔ ∀ j, i ≤ j → j < i + c → bodyP l j
  | 0, i => by
    simp only [areGo, true_iff]
    intro j h1 h2; omega
  | c + 1, i => by
    simp only [areGo, Bool.and_eq_true, Bool.or_eq_true, decide_eq_true_eq, areGo_iff l c (i + 1)]
    constructor
    · rintro ⟨h1, h2, h3, h4⟩ j hj hk
      by_cases h : j = i
      · subst h; exact ⟨h1, h2, h3⟩
      · exact h4 j (by omega) (by omega)
    · intro h
      obtain ⟨h1, h2, h3⟩ := h i (Nat.le_refl _) (by omega)
      exact ⟨h1, h2, h3, fun j a b => h j (by omega) (by omega)⟩
theorem areB_iff (l : List Nts) : areB l = true ↔ ∀ j, j < l.length → bodyP l j := by
  unfold areB
  rw [areGo_iff]
  simp only [Nat.zero_add, Nat.zero_le, true_implies]
theorem areB_snoc (gs : List Nts) (g : Nts) : areB (gs ++ [g]) = true ↔ areB gs = true ∧ okCh g = true ∧ g.length ≤ 6 ∧ (gs = [] ∨ 0 ≤ cmpF (hdN g).1.1 (hdN g).1.2 (endN (hdN (gAt gs (gs.length - 1)))).1 (endN (hdN (gAt gs (gs.length - 1)))).2) := by
  rw [areB_iff, areB_iff]
  have key : ∀ j, j < gs.length → (bodyP (gs ++ [g]) j ↔ bodyP gs j) := fun j hj => by
    unfold bodyP
    rw [gAt_left hj, gAt_left (show j - 1 < gs.length by omega)]
  have hlast : bodyP (gs ++ [g]) gs.length ↔ (okCh g = true ∧ g.length ≤ 6 ∧ (gs = [] ∨ 0 ≤ cmpF (hdN g).1.1 (hdN g).1.2 (endN (hdN (gAt gs (gs.length - 1)))).1 (endN (hdN (gAt gs (gs.length - 1)))).2)) := by
    unfold bodyP
    rw [gAt_end]
    by_cases h0 : gs = []
    · simp [h0]
    · have := List.length_pos_iff.2 h0
      rw [gAt_left (show gs.length - 1 < gs.length by omega)]
      simp only [h0, false_or, show ¬ gs.length = 0 by omega]
  constructor
  · intro h
    refine ⟨fun j hj => (key j hj).1 (h j (by simp; omega)), hlast.1 (h gs.length (by simp))⟩
  · rintro ⟨h1, h2⟩ j hj
    by_cases e : j = gs.length
    · subst e; exact hlast.2 h2
    · simp only [List.length_append, List.length_cons, List.length_nil] at hj
      exact (key j (by omega)).2 (h1 j (by omega))
theorem okCh_app {g : Nts} {n : Nt} (h : 1 ≤ g.length) : okCh (g ++ [n]) = true ↔ okCh g = true ∧ sameN (hdN g) n = true := by
  unfold okCh
  rw [hdN_app h, List.all_append]
  simp
theorem addN_nil {ch : Int} {n : Nt} (h : (n.2.2.2.2 : Int) = ch) : addN ch [] n = [[n]] := addN_new h (.inl rfl)
theorem addN_snoc {ch : Int} {hs : List Nts} {g : Nts} {n : Nt} (h : (n.2.2.2.2 : Int) = ch) : addN ch (hs ++ [g]) n = if (hdN g).1 = n.1 then hs ++ [g ++ [n]] else hs ++ [g] ++ [[n]] := by
  have e1 : gAt (hs ++ [g]) ((hs ++ [g]).length - 1) = g := by
    rw [show (hs ++ [g]).length - 1 = hs.length by simp]; exact gAt_end
  unfold addN
  rw [if_pos h, e1]
  split
  · rename_i hc
    rw [if_pos hc.2, show (hs ++ [g]).length - 1 = hs.length by simp]
    simp
  · rename_i hc
    rw [if_neg fun h => hc ⟨by simp, h⟩]
theorem areB_addN {ch : Int} {gs : List Nts} {n : Nt} (hv : ∀ g ∈ gs, gV g) (h : areB (addN ch gs n) = true) : areB gs = true := by
  by_cases hc : (n.2.2.2.2 : Int) = ch
  · rcases snoc_cases gs with rfl | ⟨hs, g, rfl⟩
    · rw [areB_iff]; simp
    · rw [addN_snoc hc] at h
      split at h
      · have hg := (hv g (by simp)).lo
        rw [areB_snoc] at h
        rw [areB_snoc]
        obtain ⟨h1, h2, h3, h4⟩ := h
        rw [hdN_app hg] at h4
        simp only [List.length_append, List.length_cons, List.length_nil] at h3
        exact ⟨h1, ((okCh_app hg).1 h2).1, by omega, h4⟩
      · rw [areB_snoc] at h
        exact h.1
  · rwa [addN_skip hc] at h
theorem addN_gV {ch : Int} {gs : List Nts} {n : Nt} (hn : noteF n = true) (hv : ∀ g ∈ gs, gV g) : ∀ g ∈ addN ch gs n, gV g := by
  by_cases hc : (n.2.2.2.2 : Int) = ch
  · have h1 : gV [n] := ⟨by simp, fun m hm => by rw [List.mem_singleton.1 hm]; exact hn⟩
    rcases snoc_cases gs with rfl | ⟨hs, g, rfl⟩
    · rw [addN_nil hc]; intro g hg; rw [List.mem_singleton.1 hg]; exact h1
    · rw [addN_snoc hc]
      have hg := hv g (by simp)
      have h2 : gV (g ++ [n]) := ⟨by simp, fun m hm => by
        rcases List.mem_append.1 hm with hm | hm
        · exact hg.all m hm
        · rw [List.mem_singleton.1 hm]; exact hn⟩
      split
      · intro x hx
        rcases List.mem_append.1 hx with hx | hx
        · exact hv x (by simp [hx])
        · rw [List.mem_singleton.1 hx]; exact h2
      · intro x hx
        rcases List.mem_append.1 hx with hx | hx
        · exact hv x (by simpa using hx)
        · rw [List.mem_singleton.1 hx]; exact h1
  · rwa [addN_skip hc]
theorem areB_chG {ch : Int} : ∀ {xs : Nts} {gs : List Nts}, (∀ n ∈ xs, noteF n = true) → (∀ g ∈ gs, gV g) → areB (chG ch xs gs) = true → areB gs = true
  | [], _, _, _, h => h
  | n :: t, gs, hx, hv, h => areB_addN hv (areB_chG (fun m hm => hx m (List.mem_cons_of_mem _ hm)) (addN_gV (hx n List.mem_cons_self) hv) h)
/-! ### the reference's state, by chords -/
abbrev Stt := List tItem.den × (Int × Int) × Int × Bool
def stepS (s : Stt) (g : Nts) : Stt := (s.1 ++ (gap2 s.2.1.1 s.2.1.2 (hdN g) ++ (loudI s.2.2.1 (hdN g) ++ [itNote (g.map pN) (hdN g).2.1])), endN (hdN g), (hdN g).2.2.2.1, lost2 s.2.1.1 s.2.1.2 (hdN g) s.2.2.2)
def stG (gs : List Nts) : Stt := gs.foldl stepS ([], (0, 1), 80, false)
theorem stG_snoc (gs : List Nts) (g : Nts) : stG (gs ++ [g]) = stepS (stG gs) g := by simp [stG, List.foldl_append]
theorem iLast_app (A : List tItem.den) (y : tItem.den) : iLast (A ++ [y]) = y := by
  unfold iLast
  rw [show (A ++ [y]).length - 1 = A.length by simp, List.getD_eq_getElem?_getD, List.getElem?_append_right (Nat.le_refl _), Nat.sub_self]; rfl
theorem set_app (A : List tItem.den) (y z : tItem.den) : (A ++ [y]).set ((A ++ [y]).length - 1) z = A ++ [z] := by
  rw [show (A ++ [y]).length - 1 = A.length by simp]
  simp
theorem on_stG {ch : Int} {gs : List Nts} {n : Nt} (hn : noteF n = true) (hv : ∀ g ∈ gs, gV g) (ha : areB gs = true) :
    onNote ch n (stG gs).1 (stG gs).2.1.1 (stG gs).2.1.2 (stG gs).2.2.1 (stG gs).2.2.2 = if areB (addN ch gs n) = true then some (stG (addN ch gs n)) else none := by
  by_cases hc : (n.2.2.2.2 : Int) = ch
  · rcases snoc_cases gs with rfl | ⟨hs, g, rfl⟩
    · rw [addN_nil hc]
      have h1 : areB [[n]] = true := by
        rw [show [[n]] = [] ++ [[n]] from rfl, areB_snoc]
        refine ⟨ha, ?_, by simp, .inl rfl⟩
        simp [okCh, sameN, hdN]
      rw [if_pos h1]
      have e : stG [[n]] = stepS (stG []) [n] := rfl
      rw [e]
      unfold onNote
      have h2 := cmp_first hn
      rw [if_pos hc, if_neg (fun h => h.1 rfl), if_neg (show ¬ cmpF n.1.1 n.1.2 (stG []).2.1.1 (stG []).2.1.2 < 0 by show ¬ cmpF n.1.1 n.1.2 0 1 < 0; omega)]
      rfl
    · rw [stG_snoc, addN_snoc hc]
      have hg := hv g (by simp)
      have hf := hg.hd
      have hse := sub_end hf
      generalize hS : stG hs = S
      obtain ⟨A, e, lo, lost⟩ := S
      simp only [stepS]
      generalize hB : A ++ (gap2 e.1 e.2 (hdN g) ++ loudI lo (hdN g)) = B
      have hout : A ++ (gap2 e.1 e.2 (hdN g) ++ (loudI lo (hdN g) ++ [itNote (g.map pN) (hdN g).2.1])) = B ++ [itNote (g.map pN) (hdN g).2.1] := by rw [← hB]; simp
      rw [hout]
      unfold onNote
      rw [if_pos hc, iLast_app]
      have hk : (itNote (g.map pN) (hdN g).2.1).1 = (1 : Int) := rfl
      have hl1 : (itNote (g.map pN) (hdN g).2.1).2.2.1 = (hdN g).2.1 := rfl
      have hl2 : (itNote (g.map pN) (hdN g).2.1).2.1 = g.map pN := rfl
      rw [hl1, hl2, hse]
      by_cases hs1 : (hdN g).1 = n.1
      · rw [if_pos ⟨by simp, hk, hs1⟩, if_pos hs1, set_app]
        have hst : stG (hs ++ [g ++ [n]]) = (B ++ [addP (itNote (g.map pN) (hdN g).2.1) (pN n)], endN (hdN g), (hdN g).2.2.2.1, lost2 e.1 e.2 (hdN g) lost) := by
          rw [stG_snoc, hS]
          simp only [stepS, hdN_app hg.lo, ← hB, List.map_append, List.map_cons, List.map_nil]
          refine Prod.ext ?_ rfl
          simp [addP, itNote]
        have hiff : areB (hs ++ [g ++ [n]]) = true ↔ ((hdN g).2.1 = n.2.1 ∧ (hdN g).2.2.2.1 = n.2.2.2.1 ∧ (List.length (g.map pN) : Int) < 6) := by
          rw [areB_snoc] at ha ⊢
          rw [hdN_app hg.lo, okCh_app hg.lo]
          simp only [sameN, Bool.and_eq_true, decide_eq_true_eq, List.length_append, List.length_cons, List.length_nil, List.length_map]
          constructor
          · rintro ⟨_, ⟨_, h1, h2⟩, h3, _⟩
            exact ⟨h1.symm, h2.symm, by omega⟩
          · rintro ⟨h1, h2, h3⟩
            exact ⟨ha.1, ⟨ha.2.1, h1.symm, h2.symm⟩, by omega, ha.2.2.2⟩
        by_cases hb : areB (hs ++ [g ++ [n]]) = true
        · rw [if_pos hb, if_pos (hiff.1 hb), hst]
        · rw [if_neg hb, if_neg (fun h => hb (hiff.2 h))]
      · rw [if_neg (fun h => hs1 h.2.2), if_neg hs1]
        have hiff : areB (hs ++ [g] ++ [[n]]) = true ↔ ¬ cmpF n.1.1 n.1.2 (endN (hdN g)).1 (endN (hdN g)).2 < 0 := by
          rw [areB_snoc]
          have e1 : gAt (hs ++ [g]) ((hs ++ [g]).length - 1) = g := by
            rw [show (hs ++ [g]).length - 1 = hs.length by simp]; exact gAt_end
          rw [e1]
          have e2 : hdN [n] = n := rfl
          rw [e2]
          constructor
          · rintro ⟨_, _, _, h | h⟩
            · simp at h
            · omega
          · intro h
            exact ⟨ha, by simp [okCh, sameN, hdN], by simp, .inr (by omega)⟩
        by_cases hb : cmpF n.1.1 n.1.2 (endN (hdN g)).1 (endN (hdN g)).2 < 0
        · rw [if_pos hb, if_neg (fun h => hiff.1 h hb)]
        · rw [if_neg hb, if_pos (hiff.2 hb), stG_snoc, stG_snoc, hS]
          simp only [stepS, hout]
          rfl
  · rw [addN_skip hc, if_pos ha]
    unfold onNote
    rw [if_neg hc]
theorem spec_stG {ch : Int} : ∀ {xs : Nts} {gs : List Nts}, (∀ n ∈ xs, noteF n = true) → (∀ g ∈ gs, gV g) → areB gs = true →
    specGo ch xs (stG gs).1 (stG gs).2.1.1 (stG gs).2.1.2 (stG gs).2.2.1 (stG gs).2.2.2 = if areB (chG ch xs gs) = true then some ((stG (chG ch xs gs)).1, (stG (chG ch xs gs)).2.2.2) else none
  | [], gs, _, _, ha => by simp [specGo, chG, ha]
  | n :: t, gs, hx, hv, ha => by
    have hn := hx n List.mem_cons_self
    have ht := fun m hm => hx m (List.mem_cons_of_mem _ hm)
    have hv' := addN_gV (ch := ch) hn hv
    have e : chG ch (n :: t) gs = chG ch t (addN ch gs n) := rfl
    rw [e]
    simp only [specGo]
    rw [on_stG hn hv ha]
    by_cases hb : areB (addN ch gs n) = true
    · rw [if_pos hb]
      exact spec_stG ht hv' hb
    · rw [if_neg hb, if_neg fun h => hb (areB_chG ht hv' h)]
/-! ### the chords, one after the other -/
def chOk : List Nts → Int → Int → Prop
  | [], _, _ => True
  | g :: t, a, b => 0 ≤ cmpF (hdN g).1.1 (hdN g).1.2 a b ∧ chOk t (endN (hdN g)).1 (endN (hdN g)).2
theorem chOk_of : ∀ (gs : List Nts) (a b : Int), (∀ g, gs.head? = some g → 0 ≤ cmpF (hdN g).1.1 (hdN g).1.2 a b) →
    (∀ j, j + 1 < gs.length → 0 ≤ cmpF (hdN (gAt gs (j + 1))).1.1 (hdN (gAt gs (j + 1))).1.2 (endN (hdN (gAt gs j))).1 (endN (hdN (gAt gs j))).2) → chOk gs a b
  | [], _, _, _, _ => trivial
  | g :: t, a, b, h1, h2 => by
    refine ⟨h1 g rfl, chOk_of t _ _ (fun g' hg' => ?_) (fun j hj => h2 (j + 1) (by simpa using hj))⟩
    cases t with
    | nil => simp at hg'
    | cons g2 t2 =>
      simp only [List.head?_cons, Option.some.injEq] at hg'
      subst hg'
      exact h2 0 (by simp)
theorem lost_keep (gs : List Nts) : ∀ (s : Stt), s.2.2.2 = true → (gs.foldl stepS s).2.2.2 = true := by
  induction gs with
  | nil => exact fun s h => h
  | cons g t ih =>
    intro s h
    refine ih (stepS s g) ?_
    simp only [stepS, lost2, h]
    split <;> simp
theorem build_st : ∀ (gs : List Nts) (out : List tItem.den) (a b lo : Int) (lost : Bool), (∀ g ∈ gs, gV g) → okF a b = true → chOk gs a b →
    ((gs.foldl stepS (out, (a, b), lo, lost)).2.2.2 = false → lost = false ∧ (buildGo gs a b lo).2 = 0 ∧ (gs.foldl stepS (out, (a, b), lo, lost)).1 = out ++ (buildGo gs a b lo).1) ∧
    ((gs.foldl stepS (out, (a, b), lo, lost)).2.2.2 = true → lost = true ∨ (buildGo gs a b lo).2 = 2)
  | [], out, a, b, lo, lost, _, _, _ => by
    exact ⟨fun h => ⟨h, rfl, (List.append_nil _).symm⟩, fun h => .inl h⟩
  | g :: t, out, a, b, lo, lost, hv, hab, hch => by
    have hg := hv g List.mem_cons_self
    have hf := hg.hd
    have hok := (note_ok hf).1
    obtain ⟨hc1, hc2⟩ := hch
    have hpos := cmp_pos (x := (hdN g).1) (y := (a, b)) hok hab hc1
    have hsub := subF_ok hok hab
    have hgap : gap2 a b (hdN g) = gapI a b (hdN g) := by
      unfold gap2 gapI
      by_cases h : (hdN g).1 = (a, b)
      · rw [if_pos h, if_neg (fun k => hpos.1 k h)]
      · rw [if_neg h, if_pos (hpos.2 h)]
    have hlost : lost2 a b (hdN g) lost = (lost || decide ((hdN g).1 ≠ (a, b) ∧ (subF (hdN g).1.1 (hdN g).1.2 a b).2 ≠ 0)) := by
      unfold lost2
      by_cases h : (hdN g).1 = (a, b)
      · rw [if_neg (fun k => hpos.1 k h)]; simp [h]
      · rw [if_pos (hpos.2 h)]; simp [h]
    have ih := fun o l => build_st t o (endN (hdN g)).1 (endN (hdN g)).2 (hdN g).2.2.2.1 l (fun x hx => hv x (List.mem_cons_of_mem _ hx)) (end_ok hf) hc2
    simp only [List.foldl_cons]
    have hstep : stepS (out, (a, b), lo, lost) g = (out ++ (gapI a b (hdN g) ++ (loudI lo (hdN g) ++ [itNote (g.map pN) (hdN g).2.1])), ((endN (hdN g)).1, (endN (hdN g)).2), (hdN g).2.2.2.1, lost || decide ((hdN g).1 ≠ (a, b) ∧ (subF (hdN g).1.1 (hdN g).1.2 a b).2 ≠ 0)) := by
      simp only [stepS, hgap, hlost]
    rw [hstep]
    simp only [buildGo]
    by_cases hbad : (hdN g).1 ≠ (a, b) ∧ (subF (hdN g).1.1 (hdN g).1.2 a b).2 ≠ 0
    · rw [if_pos hbad, decide_eq_true hbad, Bool.or_true]
      have hk := lost_keep t (out ++ (gapI a b (hdN g) ++ (loudI lo (hdN g) ++ [itNote (g.map pN) (hdN g).2.1])), ((endN (hdN g)).1, (endN (hdN g)).2), (hdN g).2.2.2.1, true) rfl
      refine ⟨fun h => by rw [hk] at h; simp at h, fun _ => .inr ?_⟩
      rcases hsub with h | h
      · exact absurd h.1 hbad.2
      · exact h
    · rw [if_neg hbad, decide_eq_false hbad, Bool.or_false]
      obtain ⟨i1, i2⟩ := ih (out ++ (gapI a b (hdN g) ++ (loudI lo (hdN g) ++ [itNote (g.map pN) (hdN g).2.1]))) lost
      refine ⟨fun h => ?_, i2⟩
      obtain ⟨j1, j2, j3⟩ := i1 h
      refine ⟨j1, j2, ?_⟩
      rw [j3]
      simp
theorem items_same (xs : Nts) (ch : Int) : specI xs ch = implI xs ch := by
  unfold specI implI
  cases hs : scoreF xs
  · rfl
  · cases inB ch 0 15
    · rfl
    · simp only [if_true]
      obtain ⟨_, h2⟩ := score_notes hs
      have hx : ∀ n ∈ xs, noteF n = true := fun n hn => List.all_eq_true.1 h2 n hn
      have h0 : areB [] = true := by rw [areB_iff]; simp
      have h3 := spec_stG (ch := ch) (xs := xs) (gs := []) hx (by simp) h0
      have h4 : specGo ch xs [] 0 1 80 false = if areB (chG ch xs []) = true then some ((stG (chG ch xs [])).1, (stG (chG ch xs [])).2.2.2) else none := h3
      rw [h4]
      unfold implC
      have hv : ∀ (ys : Nts) (gs : List Nts), (∀ n ∈ ys, noteF n = true) → (∀ g ∈ gs, gV g) → ∀ g ∈ chG ch ys gs, gV g := by
        intro ys
        induction ys with
        | nil => exact fun gs _ h => h
        | cons n t ih => exact fun gs hy h => ih _ (fun m hm => hy m (List.mem_cons_of_mem _ hm)) (addN_gV (hy n List.mem_cons_self) h)
      have hgv := hv xs [] hx (by simp)
      generalize chG ch xs [] = gs at *
      by_cases ha : areB gs = true
      · rw [if_pos ha, if_pos ha]
        have hch : chOk gs 0 1 := by
          refine chOk_of gs 0 1 (fun g hg => cmp_first (hgv g (List.mem_of_mem_head? hg)).hd) fun j hj => ?_
          have := ((areB_iff gs).1 ha (j + 1) hj).2.2
          rcases this with h | h
          · omega
          · exact h
        obtain ⟨b1, b2⟩ := build_st gs [] 0 1 80 false hgv (by decide) hch
        have est : gs.foldl stepS ([], (0, 1), 80, false) = stG gs := rfl
        rw [est] at b1 b2
        simp only [specC]
        cases hl : (stG gs).2.2.2
        · obtain ⟨_, j2, j3⟩ := b1 hl
          rw [List.nil_append] at j3
          rw [if_pos j2, j3]
          simp
        · have := (b2 hl).resolve_left (by simp)
          rw [this]
          simp
      · rw [if_neg ha, if_neg ha]; rfl
end Go.Proofs.Ytemlpimibhijoaa
