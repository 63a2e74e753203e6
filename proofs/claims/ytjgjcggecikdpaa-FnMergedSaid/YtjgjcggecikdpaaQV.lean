/- Plain laws: drawn scores merged, cut, quantized, sorted. Conditions: as each says. -/
import Derived.Test.YtjgjcggecikdpaaQS
import Derived.Test.YtjgjcggecikdpaaSg
import Derived.Test.YtjgjcggecikdpaaSq
set_option linter.unusedSimpArgs false
set_option linter.unusedVariables false
namespace Go.Proofs.Ytjgjcggecikdpaa
open Go.RowKit Sx
/-! ### merging -/
theorem nodup_apart {l : List tNote.den} (ho : AllOk goodN l) (ha : Apart l) : l.Nodup := ha.imp_of_mem fun hx hy h e => h (by rw [← e]; exact cmpN_zero.2 ⟨swoN.irr (ho _ hx), swoN.irr (ho _ hx)⟩)
theorem merge_perm {xs ys : List tNote.den} (hx : scoreF xs = true) (hy : scoreF ys = true) : (xs ++ newL xs ys).Perm (ys ++ newL ys xs) := by
  obtain ⟨_, ox, _, ax, _⟩ := score_parts hx
  obtain ⟨_, oy, _, ay, _⟩ := score_parts hy
  have nd : ∀ {xs ys : List tNote.den}, xs.Nodup → ys.Nodup → (xs ++ newL xs ys).Nodup := fun h1 h2 => by
    refine List.nodup_append.2 ⟨h1, h2.sublist List.filter_sublist, fun a ha b hb e => ?_⟩
    subst e
    have := (List.mem_filter.1 hb).2
    simp [ha] at this
  refine (List.perm_ext_iff_of_nodup (nd (nodup_apart ox ax) (nodup_apart oy ay)) (nd (nodup_apart oy ay) (nodup_apart ox ax))).2 fun z => ?_
  simp only [newL, List.mem_append, List.mem_filter, Bool.not_eq_true', decide_eq_false_iff_not]
  by_cases h1 : z ∈ xs <;> by_cases h2 : z ∈ ys <;> simp [h1, h2]
theorem merge_good {xs ys : List tNote.den} (hx : scoreF xs = true) (hy : scoreF ys = true) : AllOk goodN (xs ++ newL xs ys) := by
  obtain ⟨_, ox, _⟩ := score_parts hx
  obtain ⟨_, oy, _⟩ := score_parts hy
  exact AllOk.app.2 ⟨ox, fun z hz => oy z (List.mem_filter.1 hz).1⟩
theorem mergeS_eq {xs ys : List tNote.den} (hx : scoreF xs = true) (hy : scoreF ys = true) : mergeS xs ys = if twinB (srt ltN (xs ++ newL xs ys)) = true then ([], 4) else if 60 < ((xs ++ newL xs ys).length : Int) then ([], 5) else (srt ltN (xs ++ newL xs ys), 0) := if_pos ⟨hx, hy⟩
theorem merge_comm {xs ys : List tNote.den} (hx : scoreF xs = true) (hy : scoreF ys = true) : mergeS xs ys = mergeS ys xs := by
  have hp := merge_perm hx hy
  have o1 := merge_good hx hy
  have o2 := merge_good hy hx
  have ht : twinB (srt ltN (xs ++ newL xs ys)) = twinB (srt ltN (ys ++ newL ys xs)) := bool_eq_of (by rw [twin_srt o1, twin_srt o2]; exact apart_perm hp)
  have hl := hp.length_eq
  rw [mergeS_eq hx hy, mergeS_eq hy hx, ht, hl]
  cases hc : twinB (srt ltN (ys ++ newL ys xs))
  · simp only [Bool.false_eq_true, if_false]
    have ha : Apart (xs ++ newL xs ys) := (twin_srt o1).1 (by rw [ht]; exact hc)
    rw [srt_same hp o1 ha]
  · rfl
theorem merge_score {xs ys : List tNote.den} (hx : scoreF xs = true) (hy : scoreF ys = true) (h : (mergeS xs ys).2 = 0) : scoreF (mergeS xs ys).1 = true := by
  have o1 := merge_good hx hy
  rw [mergeS_eq hx hy] at h ⊢
  split at h
  · simp at h
  · rename_i h1
    rw [if_neg h1]
    split at h
    · simp at h
    · rename_i h2
      rw [if_neg h2]
      have p : (srt ltN (xs ++ newL xs ys)).Perm (xs ++ newL xs ys) := srt_perm
      have ha : Apart (xs ++ newL xs ys) := (twin_srt o1).1 (by simpa using h1)
      refine score_of (by rw [srt_len]; omega) (List.all_eq_true.2 fun z hz => o1 z (p.subset hz)) (sorted_srt swoN o1) ((apart_perm p).2 ha)
/-! ### multiples of 1/24 compared -/
theorem r24_int {m : Int} (h : 0 ≤ m ∧ m ≤ 1000) : r24 (24 * m) = (m, 1) := by
  have h1 := r24_ok (n := 24 * m) (by omega)
  refine qF_inj h1.1 (okF_int (by omega)) ?_
  rw [h1.2.1, qF_int, Rat.intCast_mul]
  have : ((24 : Int) : Rat) = 24 := rfl
  rw [this]
  grind
theorem cmpr_lt {a b : Int} (ha : 0 ≤ a ∧ a ≤ 1000000) (hb : 0 ≤ b ∧ b ≤ 1000000) : cmpF (r24 a).1 (r24 a).2 (r24 b).1 (r24 b).2 < 0 ↔ a < b := by
  constructor
  · intro h
    rcases Int.lt_or_le a b with g | g
    · exact g
    · rcases Int.lt_or_eq_of_le g with g | g
      · have := (cmpr ha hb).2 g; omega
      · subst g
        unfold cmpF at h
        rw [if_neg (by omega), if_neg (by omega)] at h
        simp at h
  · intro h; exact r24_lt ha.1 h (by omega)
theorem cmpr_ge {a b : Int} (ha : 0 ≤ a ∧ a ≤ 1000000) (hb : 0 ≤ b ∧ b ≤ 1000000) : 0 ≤ cmpF (r24 a).1 (r24 a).2 (r24 b).1 (r24 b).2 ↔ b ≤ a := by
  have := cmpr_lt ha hb
  omega
/-! ### parts of a score -/
theorem score_filter {xs : List tNote.den} (hx : scoreF xs = true) (p : tNote.den → Bool) : scoreF (xs.filter p) = true := by
  obtain ⟨n, o, s, a, _⟩ := score_parts hx
  have hl := (score_notes hx).1
  have := List.length_filter_le p xs
  exact score_of (by omega) (List.all_eq_true.2 fun z hz => List.all_eq_true.1 n z (List.mem_filter.1 hz).1) (s.sublist List.filter_sublist) (a.sublist List.filter_sublist)
/-- A note's part between two beats, f and t. -/
theorem cu_w24 {x : tNote.den} (h : D24 x) {f t : Int} (hf : 0 ≤ f ∧ f ≤ nu x.1) (ht : nu x.1 < t ∧ t ≤ 24000) :
    W24 (cuF (r24 t) (r24 f) x) ∧ nu (cuF (r24 t) (r24 f) x).1 = nu x.1 - f ∧ en (cuF (r24 t) (r24 f) x) ≤ t - f ∧ (cuF (r24 t) (r24 f) x).2.2 = x.2.2 := by
  obtain ⟨w, ha, hl⟩ := h
  have a0 := w.a0
  have l0 := w.l0
  have b := en_bd w
  have e1 := w.at_
  have e2 := w.len_
  have en_ : en x = nu x.1 + nu x.2.1 := rfl
  have hE := endN24 w
  have f1 : (cuF (r24 t) (r24 f) x).1 = r24 (nu x.1 - f) := by
    show (subF x.1.1 x.1.2 (r24 f).1 (r24 f).2).1 = _
    generalize nu x.1 = A at *
    rw [e1, sub24 hf.1 hf.2 (by omega)]
  have f2 : (cuF (r24 t) (r24 f) x).2.1 = r24 (if t < en x then t - nu x.1 else nu x.2.1) := by
    show (if 0 < cmpF (endN x).1 (endN x).2 (r24 t).1 (r24 t).2 then (subF (r24 t).1 (r24 t).2 x.1.1 x.1.2).1 else x.2.1) = _
    rw [hE]
    have hc := cmpr (a := en x) (b := t) (by omega) (by omega)
    by_cases hg : t < en x
    · rw [if_pos (hc.2 hg), if_pos hg]
      clear hE hc
      generalize nu x.1 = A at *
      rw [e1, sub24 (by omega) (by omega) (by omega)]
    · rw [if_neg (fun k => hg (hc.1 k)), if_neg hg]
      exact e2
  have hL : 1 ≤ (if t < en x then t - nu x.1 else nu x.2.1) ∧ (if t < en x then t - nu x.1 else nu x.2.1) ≤ 24000 ∧ nu x.1 + (if t < en x then t - nu x.1 else nu x.2.1) ≤ t := by
    split <;> omega
  obtain ⟨w1, n1, n2⟩ := W24.of (x := cuF (r24 t) (r24 f) x) f1 f2 (by omega) ⟨hL.1, hL.2.1⟩ w.key w.vel w.ch
  refine ⟨w1, n1, ?_, rfl⟩
  unfold en
  rw [n1, n2]
  omega
theorem keep_iff {x : tNote.den} (h : D24 x) {f t : Int} (hf : 0 ≤ f ∧ f ≤ 24000) (ht : 0 ≤ t ∧ t ≤ 24000) : keepC (r24 f) (r24 t) x = true ↔ f ≤ nu x.1 ∧ nu x.1 < t := by
  have a0 := h.w.a0
  have a1 := h.a
  have e := h.w.at_
  unfold keepC
  clear h
  generalize nu x.1 = A at *
  rw [e, Bool.and_eq_true, decide_eq_true_eq, decide_eq_true_eq, cmpr_ge (by omega) (by omega), cmpr_lt (by omega) (by omega)]
theorem cut_part {xs : List tNote.den} (hx : scoreF xs = true) (hd : ∀ x ∈ xs, D24 x) {f t : Int} (hf : 0 ≤ f ∧ f ≤ 24000) (ht : f < t ∧ t ≤ 24000) :
    (cutS xs (r24 f) (r24 t)).2 = 0 ∧ (cutS xs (r24 f) (r24 t)).1.length = (xs.filter fun x => decide (f ≤ nu x.1) && decide (nu x.1 < t)).length ∧ scoreF (cutS xs (r24 f) (r24 t)).1 = true ∧ (∀ y ∈ (cutS xs (r24 f) (r24 t)).1, W24 y ∧ en y ≤ t - f) := by
  have k1 := r24_ok (n := f) (by omega)
  have k2 := r24_ok (n := t) (by omega)
  have e : cutS xs (r24 f) (r24 t) = makeS ((xs.filter (keepC (r24 f) (r24 t))).map (cuF (r24 t) (r24 f))) := by
    unfold cutS
    rw [if_pos ⟨hx, k1.1, k2.1⟩, if_pos ⟨⟨r24_beat (by omega), r24_beat (by omega)⟩, (cmpr_lt (by omega) (by omega)).2 ht.1⟩]
  have hk : xs.filter (keepC (r24 f) (r24 t)) = xs.filter fun x => decide (f ≤ nu x.1) && decide (nu x.1 < t) := List.filter_congr fun x hxm => by
    rw [Bool.eq_iff_iff, keep_iff (hd x hxm) hf (by omega), Bool.and_eq_true, decide_eq_true_eq, decide_eq_true_eq]
  rw [e, hk]
  have hs := score_filter hx (fun x => decide (f ≤ nu x.1) && decide (nu x.1 < t))
  have hm : ∀ x ∈ xs.filter (fun x => decide (f ≤ nu x.1) && decide (nu x.1 < t)), D24 x ∧ f ≤ nu x.1 ∧ nu x.1 < t := fun x hxm => by
    have := List.mem_filter.1 hxm
    simp only [Bool.and_eq_true, decide_eq_true_eq] at this
    exact ⟨hd x this.1, this.2⟩
  generalize xs.filter (fun x => decide (f ≤ nu x.1) && decide (nu x.1 < t)) = zs at *
  have hw := fun x (h : x ∈ zs) => cu_w24 (hm x h).1 (f := f) (t := t) ⟨hf.1, (hm x h).2.1⟩ ⟨(hm x h).2.2, ht.2⟩
  have h0 : (makeS (zs.map (cuF (r24 t) (r24 f)))).2 = 0 := makeS_map hs (fun x h => (hw x h).1.valid) fun x h y h' e1 e2 e3 => by
    have g1 := (hw x h).2.1
    have g2 := (hw y h').2.1
    rw [e1] at g1
    have e4 := (hw x h).2.2.2
    have e5 := (hw y h').2.2.2
    refine ⟨?_, by rw [← e4, ← e5]; exact e2, by rw [← e4, ← e5]; exact e3⟩
    rw [(hm x h).1.w.at_, (hm y h').1.w.at_, show nu x.1 = nu y.1 by omega]
  have hsc := makeS_score (by rw [List.length_map]; exact (score_notes hs).1) h0
  obtain ⟨_, _, e1⟩ := makeS_inv h0
  refine ⟨h0, by rw [e1, srt_len, List.length_map], hsc, fun y hy => ?_⟩
  rw [e1] at hy
  have p : (srt ltN (zs.map (cuF (r24 t) (r24 f)))).Perm (zs.map (cuF (r24 t) (r24 f))) := srt_perm
  obtain ⟨x, hxm, rfl⟩ := List.mem_map.1 (p.subset hy)
  exact ⟨(hw x hxm).1, (hw x hxm).2.2.1⟩
theorem cut_two {xs : List tNote.den} (hx : scoreF xs = true) (hd : ∀ x ∈ xs, D24 x) {m : Int} (hm : 1 ≤ m ∧ m ≤ 6) :
    (cutS xs (0, 1) (m, 1)).2 = 0 ∧ (cutS xs (m, 1) (1000, 1)).2 = 0 ∧ (cutS xs (0, 1) (m, 1)).1.length + (cutS xs (m, 1) (1000, 1)).1.length = xs.length ∧
    (endS (cutS xs (0, 1) (m, 1)).1).2 = 0 ∧ okF (endS (cutS xs (0, 1) (m, 1)).1).1.1 (endS (cutS xs (0, 1) (m, 1)).1).1.2 = true ∧ cmpF (endS (cutS xs (0, 1) (m, 1)).1).1.1 (endS (cutS xs (0, 1) (m, 1)).1).1.2 m 1 ≤ 0 := by
  have e0 : ((0, 1) : Fr) = r24 (24 * 0) := (r24_int (m := 0) (by omega)).symm
  have em : ((m, 1) : Fr) = r24 (24 * m) := (r24_int (m := m) (by omega)).symm
  have e1 : ((1000, 1) : Fr) = r24 (24 * 1000) := (r24_int (m := 1000) (by omega)).symm
  have em1 : (m : Int) = (r24 (24 * m)).1 := congrArg Prod.fst em
  have em2 : (1 : Int) = (r24 (24 * m)).2 := congrArg Prod.snd em
  have c1 := cut_part hx hd (f := 24 * 0) (t := 24 * m) (by omega) (by omega)
  have c2 := cut_part hx hd (f := 24 * m) (t := 24 * 1000) (by omega) (by omega)
  rw [← e0, ← em] at c1
  rw [← em, ← e1] at c2
  refine ⟨c1.1, c2.1, ?_, ?_⟩
  · rw [c1.2.1, c2.2.1]
    have key : ∀ l : List tNote.den, (∀ x ∈ l, D24 x) → (l.filter fun x => decide (24 * 0 ≤ nu x.1) && decide (nu x.1 < 24 * m)).length + (l.filter fun x => decide (24 * m ≤ nu x.1) && decide (nu x.1 < 24 * 1000)).length = l.length := by
      intro l
      induction l with
      | nil => intro _; rfl
      | cons z t ih =>
        intro hl
        have ih := ih fun x h => hl x (by simp [h])
        have hz := hl z (by simp)
        have z0 := hz.w.a0
        have z1 := hz.a
        simp only [List.filter_cons]
        by_cases hc : nu z.1 < 24 * m
        · rw [if_pos (by simp; omega), if_neg (by simp; omega)]
          simp only [List.length_cons]
          omega
        · rw [if_neg (by simp; omega), if_pos (by simp; omega)]
          simp only [List.length_cons]
          omega
    exact key xs hd
  · obtain ⟨E, eE, bE, le, at_⟩ := endF24 fun y hy => (c1.2.2.2 y hy).1
    have es : endS (cutS xs (0, 1) (m, 1)).1 = (r24 E, 0) := by
      unfold endS
      rw [if_pos c1.2.2.1, eE]
    have hE : E ≤ 24 * m := by
      rcases at_ with h | ⟨y, hy, h⟩
      · omega
      · have := (c1.2.2.2 y hy).2; omega
    rw [es]
    refine ⟨rfl, (r24_ok (n := E) (by omega)).1, ?_⟩
    have hc := cmpr (a := E) (b := 24 * m) (by omega) (by omega)
    rw [← em] at hc
    simp only at hc ⊢
    omega
/-! ### quantizing -/
theorem round_eq {x y X Y : Int} (hy : 0 < y) (hY : 0 < Y) (h : x * Y = X * y) : (2 * x + y) / (2 * y) = (2 * X + Y) / (2 * Y) := by
  have q1 := Int.mul_ediv_add_emod (2 * X + Y) (2 * Y)
  have q2 := Int.emod_nonneg (2 * X + Y) (b := 2 * Y) (by omega)
  have q3 := Int.emod_lt_of_pos (2 * X + Y) (b := 2 * Y) (by omega)
  generalize (2 * X + Y) / (2 * Y) = q at *
  generalize (2 * X + Y) % (2 * Y) = r at *
  have e : (2 * x + y) * Y = (2 * y * q) * Y + r * y := by
    have h1 : (2 * Y * q + r) * y = (2 * X + Y) * y := by rw [q1]
    have h2 : (2 * x + y) * Y = 2 * (x * Y) + y * Y := by grind
    rw [h2, h]
    grind
  have r0 : 0 ≤ r * y := Int.mul_nonneg q2 (by omega)
  have r1 : r * y < 2 * Y * y := Int.mul_lt_mul_of_pos_right q3 hy
  have l1 : q * (2 * y) ≤ 2 * x + y := by
    refine Int.le_of_mul_le_mul_right (a := Y) ?_ hY
    rw [e]
    have : q * (2 * y) * Y = 2 * y * q * Y := by grind
    omega
  have l2 : 2 * x + y < (q + 1) * (2 * y) := by
    refine Int.lt_of_mul_lt_mul_right (a := Y) ?_ (by omega)
    rw [e]
    have : (q + 1) * (2 * y) * Y = 2 * y * q * Y + 2 * Y * y := by grind
    omega
  have hq := Int.le_ediv_of_mul_le (a := q) (b := 2 * x + y) (c := 2 * y) (by omega) l1
  have hq2 := Int.ediv_lt_of_lt_mul (a := 2 * x + y) (b := q + 1) (c := 2 * y) (by omega) l2
  omega
theorem near24 {A G : Int} (hA : 0 ≤ A ∧ A ≤ 1000) (hG : 1 ≤ G ∧ G ≤ 100) : nearX (r24 A) (r24 G) = (r24 ((2 * A + G) / (2 * G) * G), 0) ∧ 0 ≤ (2 * A + G) / (2 * G) ∧ (2 * A + G) / (2 * G) * G ≤ 1100 := by
  have cA := r24_cross (x := A) (by omega)
  have cG := r24_cross (x := G) (by omega)
  have oA := r24_ok (n := A) (by omega)
  have oG := r24_ok (n := G) (by omega)
  have dA := (okF_den oA.1).2
  have dG := (okF_den oG.1).2
  have g1 : 0 < (r24 G).1 := by
    have := r24_ne (x := G) (by omega)
    have := oG.2.2
    omega
  have hy : 0 < (r24 A).2 * (r24 G).1 := Int.mul_pos dA g1
  have hr := round_eq (x := (r24 A).1 * (r24 G).2) (y := (r24 A).2 * (r24 G).1) (X := A) (Y := G) hy (by omega) (by
    have e1 : (r24 A).1 * (r24 G).2 * G * 24 = (A * (r24 A).2) * ((r24 G).2 * G) := by rw [← cA]; grind
    have e2 : A * ((r24 A).2 * (r24 G).1) * 24 = (A * (r24 A).2) * (G * (r24 G).2) := by rw [← cG]; grind
    have : (r24 A).1 * (r24 G).2 * G * 24 = A * ((r24 A).2 * (r24 G).1) * 24 := by rw [e1, e2, Int.mul_comm (r24 G).2 G]
    omega)
  have m0 : 0 ≤ (2 * A + G) / (2 * G) := Int.ediv_nonneg (by omega) (by omega)
  have m1 := Int.ediv_mul_le (2 * A + G) (b := 2 * G) (by omega)
  have m2 : (2 * A + G) / (2 * G) * (2 * G) = 2 * ((2 * A + G) / (2 * G) * G) := by grind
  have m3 : 0 ≤ (2 * A + G) / (2 * G) * G := Int.mul_nonneg m0 (by omega)
  refine ⟨?_, m0, by omega⟩
  unfold nearX
  rw [hr]
  generalize (2 * A + G) / (2 * G) = M at *
  have oM := r24_ok (n := M * G) (by omega)
  have cM := r24_cross (x := M * G) (by omega)
  refine mkF_of oM.1 dG ?_
  have : (r24 (M * G)).1 * (r24 G).2 * 24 = M * (r24 G).1 * (r24 (M * G)).2 * 24 := by
    have e1 : (r24 (M * G)).1 * (r24 G).2 * 24 = M * G * (r24 (M * G)).2 * (r24 G).2 := by rw [← cM]; grind
    have e2 : M * (r24 G).1 * (r24 (M * G)).2 * 24 = M * (G * (r24 G).2) * (r24 (M * G)).2 := by rw [← cG]; grind
    rw [e1, e2]; grind
  omega
theorem round_self {M G : Int} (hG : 1 ≤ G) : (2 * (M * G) + G) / (2 * G) = M := by
  have e : 2 * (M * G) + G = G + M * (2 * G) := by grind
  rw [e, Int.add_mul_ediv_right _ _ (by omega), Int.ediv_eq_zero_of_lt (by omega) (by omega), Int.zero_add]
theorem qu_w24 {x : tNote.den} (h : W24 x) (ha : nu x.1 ≤ 1000) (hl : nu x.2.1 ≤ 1000) {G : Int} (hG : 1 ≤ G ∧ G ≤ 100) : W24 (quN (r24 G) x) ∧ nu (quN (r24 G) x).1 = (2 * nu x.1 + G) / (2 * G) * G := by
  have hn := near24 (A := nu x.1) (G := G) ⟨h.a0, ha⟩ hG
  have f1 : (quN (r24 G) x).1 = r24 ((2 * nu x.1 + G) / (2 * G) * G) := by
    show (nearX x.1 (r24 G)).1 = _
    have e := h.at_
    generalize nu x.1 = A at *
    rw [e, hn.1]
  have m3 : 0 ≤ (2 * nu x.1 + G) / (2 * G) * G := Int.mul_nonneg hn.2.1 (by omega)
  obtain ⟨w, n1, _⟩ := W24.of (x := quN (r24 G) x) f1 h.len_ (by omega) (by have := h.l0; omega) h.key h.vel h.ch
  exact ⟨w, n1⟩
theorem qu_twice {xs : List tNote.den} (hx : scoreF xs = true) (hd : ∀ x ∈ xs, D24 x) {G : Int} (hG : 1 ≤ G ∧ G ≤ 100) :
    (quS xs (r24 G)).2 = 0 ∧ quS (quS xs (r24 G)).1 (r24 G) = ((quS xs (r24 G)).1, 0) ∧ (quS xs (r24 G)).1.length ≤ xs.length := by
  have oG := r24_ok (n := G) (by omega)
  have g1 : ¬ (r24 G).1 ≤ 0 := by
    have := r24_ne (x := G) (by omega)
    have := oG.2.2
    omega
  have hw := fun x (h : x ∈ xs) => qu_w24 (hd x h).w (by have := (hd x h).a; omega) (by have := (hd x h).l; omega) hG
  have hv := notes_map (xs := xs) (F := quN (r24 G)) fun x h => (hw x h).1.valid
  have e : quS xs (r24 G) = (cptL (srt ltN (xs.map (quN (r24 G)))), 0) := by
    unfold quS
    rw [if_pos ⟨hx, oG.1⟩, if_neg g1, if_pos hv]
  have hl : (srt ltN (xs.map (quN (r24 G)))).length = xs.length := by rw [srt_len, List.length_map]
  have hcl := cptL_len (srt ltN (xs.map (quN (r24 G))))
  have ho := notesOk hv
  have os := ho.srt (lt := ltN)
  obtain ⟨s1, s2⟩ := cptL_strict os (sorted_srt swoN ho)
  have p : (srt ltN (xs.map (quN (r24 G)))).Perm (xs.map (quN (r24 G))) := srt_perm
  have hmem : ∀ y ∈ cptL (srt ltN (xs.map (quN (r24 G)))), ∃ x ∈ xs, quN (r24 G) x = y := fun y hy => List.mem_map.1 (p.subset (cptL_sub hy))
  rw [e]
  simp only
  generalize cptL (srt ltN (xs.map (quN (r24 G)))) = q at *
  have oq : AllOk goodN q := fun y hy => by
    obtain ⟨x, hxm, rfl⟩ := hmem y hy
    exact (hw x hxm).1.valid
  have hq : scoreF q = true := score_of (by have := (score_notes hx).1; omega) (List.all_eq_true.2 fun y hy => oq y hy) s1 s2
  have hid : q.map (quN (r24 G)) = q := by
    conv => rhs; rw [← List.map_id q]
    refine List.map_congr_left fun y hy => ?_
    obtain ⟨x, hxm, rfl⟩ := hmem y hy
    have w := (hw x hxm).1
    have n1 := (hw x hxm).2
    have hn := near24 (A := nu x.1) (G := G) ⟨(hd x hxm).w.a0, by have := (hd x hxm).a; omega⟩ hG
    have m3 : 0 ≤ (2 * nu x.1 + G) / (2 * G) * G := Int.mul_nonneg hn.2.1 (by omega)
    have w2 := near24 (A := (2 * nu x.1 + G) / (2 * G) * G) (G := G) ?_ hG
    · rw [round_self hG.1] at w2
      have e1 : (quN (r24 G) x).1 = r24 ((2 * nu x.1 + G) / (2 * G) * G) := by rw [← n1]; exact w.at_
      have e2 : (quN (r24 G) (quN (r24 G) x)).1 = (quN (r24 G) x).1 := by
        show (nearX (quN (r24 G) x).1 (r24 G)).1 = _
        rw [e1, w2.1]
      show ((quN (r24 G) (quN (r24 G) x)).1, (quN (r24 G) x).2) = id (quN (r24 G) x)
      rw [e2]
      rfl
    · refine ⟨m3, ?_⟩
      have := Int.ediv_mul_le (2 * nu x.1 + G) (b := 2 * G) (by omega)
      have m2 : (2 * nu x.1 + G) / (2 * G) * (2 * G) = 2 * ((2 * nu x.1 + G) / (2 * G) * G) := by grind
      have := (hd x hxm).a
      omega
  refine ⟨trivial, ?_, by omega⟩
  unfold quS
  have hnq : notesF q = true := List.all_eq_true.2 fun y hy => oq y hy
  rw [if_pos ⟨hq, oG.1⟩, if_neg g1, hid, if_pos hnq, srt_id s1]
  rw [cptL_all q fun j h1 h2 e => ?_]
  rw [getD_lt _ _ _ h2, getD_lt _ _ _ (by omega)] at e
  exact cmpN_symm (List.pairwise_iff_getElem.1 s2 (j - 1) j (by omega) h2 (by omega)) e
theorem sort_self {xs : List tNote.den} (hx : scoreF xs = true) : sortS xs = (xs, 0) := by
  obtain ⟨n, o, s, a, e⟩ := score_parts hx
  have hl := (score_notes hx).1
  unfold sortS
  rw [if_neg (by omega), if_pos n, e, if_neg]
  rw [(twin_apart o s).2 a]
  simp
/-- The grids that are drawn are multiples of 1/24. -/
theorem grid24 {u v : Int} (hu : 0 ≤ u ∧ u ≤ 2) (hv : 0 ≤ v ∧ v ≤ 3) : ∃ G, (1 ≤ G ∧ G ≤ 100) ∧ (mkF (1 + u) (1 + v)).1 = r24 G := by
  have key : ∀ c : Int, (1 + v) * c = 24 → 0 < c → c ≤ 24 → ∃ G, (1 ≤ G ∧ G ≤ 100) ∧ (mkF (1 + u) (1 + v)).1 = r24 G := fun c hc h0 h1 => by
    have hp : 1 ≤ (1 + u) * c := by have := Int.mul_le_mul (a := 1) (b := 1) (c := 1 + u) (d := c) (by omega) (by omega) (by omega) (by omega); omega
    have hp2 : (1 + u) * c ≤ 3 * 24 := Int.mul_le_mul (by omega) h1 (by omega) (by omega)
    refine ⟨(1 + u) * c, by omega, ?_⟩
    have oM := r24_ok (n := (1 + u) * c) (by omega)
    have cM := r24_cross (x := (1 + u) * c) (by omega)
    rw [mkF_of oM.1 (show 0 < 1 + v by omega)]
    have e : (r24 ((1 + u) * c)).1 * (1 + v) * c = (1 + u) * (r24 ((1 + u) * c)).2 * c := by
      have e1 : (r24 ((1 + u) * c)).1 * (1 + v) * c = (r24 ((1 + u) * c)).1 * 24 := by rw [← hc]; grind
      rw [e1, cM]; grind
    exact Int.eq_of_mul_eq_mul_right (by omega) e
  have : v = 0 ∨ v = 1 ∨ v = 2 ∨ v = 3 := by omega
  rcases this with h | h | h | h <;> subst h
  · exact key 24 (by decide) (by decide) (by decide)
  · exact key 12 (by decide) (by decide) (by decide)
  · exact key 8 (by decide) (by decide) (by decide)
  · exact key 6 (by decide) (by decide) (by decide)
end Go.Proofs.Ytjgjcggecikdpaa
