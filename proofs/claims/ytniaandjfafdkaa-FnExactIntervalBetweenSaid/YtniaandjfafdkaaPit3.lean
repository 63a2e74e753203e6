/- Contracts of the small functions on pitches, intervals and numbers, continued. Conditions: as each says. -/
import Derived.Test.YtniaandjfafdkaaPit2
namespace Go.Proofs.Ytniaandjfafdkaa
open Go.RowKit


theorem tdiv_bd (a b : Int) (_h1 : 1 ≤ b) (h2 : -4611686018427387904 ≤ a) (h3 : a ≤ 4611686018427387904) : a.tdiv b ≤ 9223372036854775806 ∧ -9223372036854775807 ≤ a.tdiv b := by
  have := Int.natAbs_tdiv_le_natAbs a b
  omega
set_option maxHeartbeats 400000 in
theorem floorDiv_any (a b : Int) (h1 : 1 ≤ b) (h2 : -4611686018427387904 ≤ a) (h3 : a ≤ 4611686018427387904) (w : World) :
    Calls Try.prog 47 #[.int .i64 a, .int .i64 b] w fun e w' => e = .returned (.int .i64 (a / b)) ∧ w = w' := by
  have hd : a.tdiv b ≤ 9223372036854775806 ∧ -9223372036854775807 ≤ a.tdiv b := tdiv_bd a b h1 h2 h3; have hd1 := hd.1; have hd2 := hd.2; clear hd
  by_cases hn : a.tmod b < 0
  · have H := hidden (fdiv_yes a b h1 hn)
    have hd : decide (a.tmod b < 0) = true := by simp [hn]
    go_enter Try.func47, Try.ntmps47
    go_wp2
    go_ret
    exact ⟨ret_int H.out, rfl⟩
  · have H := hidden (fdiv_no a b h1 hn)
    have hd : decide (a.tmod b < 0) = false := by simp [hn]
    go_enter Try.func47, Try.ntmps47
    go_wp2
    go_ret
    exact ⟨ret_int H.out, rfl⟩
set_option maxHeartbeats 400000 in
theorem l02Div_any (a b : Int) (h1 : 1 ≤ b) (h2 : -4611686018427387904 ≤ a) (h3 : a ≤ 4611686018427387904) (w : World) :
    Calls Try.prog 46 #[.int .i64 a, .int .i64 b] w fun e w' => e = .returned (.int .i64 (a / b)) ∧ w = w' := by
  have hd : a.tdiv b ≤ 9223372036854775806 ∧ -9223372036854775807 ≤ a.tdiv b := tdiv_bd a b h1 h2 h3; have hd1 := hd.1; have hd2 := hd.2; clear hd
  by_cases hn : a.tmod b < 0
  · have H := hidden (fdiv_yes a b h1 hn)
    have hd : decide (a.tmod b < 0) = true := by simp [hn]
    go_enter Try.func46, Try.ntmps46
    go_wp2
    go_ret
    exact ⟨ret_int H.out, rfl⟩
  · have H := hidden (fdiv_no a b h1 hn)
    have hd : decide (a.tmod b < 0) = false := by simp [hn]
    go_enter Try.func46, Try.ntmps46
    go_wp2
    go_ret
    exact ⟨ret_int H.out, rfl⟩
set_option maxHeartbeats 400000 in
theorem modulo_any (a b : Int) (h1 : 1 ≤ b) (hb : b ≤ 1000000000) (h2 : -1000000000000000000 ≤ a) (h3 : a ≤ 1000000000000000000) (w : World) :
    Calls Try.prog 48 #[.int .i64 a, .int .i64 b] w fun e w' => e = .returned (.int .i64 (a % b)) ∧ w = w' := by
  have k1 := Int.emod_nonneg a (b := b) (by omega)
  have k2 := Int.emod_lt_of_pos a (b := b) (by omega)
  have k3 := Int.mul_ediv_add_emod a b
  have e1 : IntKind.i64.wrap (b * (a / b)) = b * (a / b) := wi64 _ (by omega)
  have e2 : IntKind.i64.wrap (a - b * (a / b)) = a - b * (a / b) := wi64 _ (by omega)
  have H : Hid (a - b * (a / b) = a % b) := hidden (by omega)
  have b1 : -4611686018427387904 ≤ b * (a / b) := by omega
  have b2 : b * (a / b) ≤ 4611686018427387904 := by omega
  clear k1 k2 k3
  go_enter Try.func48, Try.ntmps48
  go_wp2_with (go_at_call 47; refine (floorDiv_any _ _ (by omega) (by omega) (by omega) _).mono ?_; rintro e w1 ⟨rfl, rfl⟩)
  go_ret
  exact ⟨ret_int H.out, rfl⟩

def fif7 (i : Int) : Int := if i = 0 then 0 else if i = 1 then 2 else if i = 2 then 4 else if i = 3 then -1 else if i = 4 then 1 else if i = 5 then 3 else 5
theorem fif7_bd (i : Int) : -1 ≤ fif7 i ∧ fif7 i ≤ 5 := by
  unfold fif7
  repeat' split
  all_goals omega
theorem fif7_get (i : Int) (h0 : 0 ≤ i) (h1 : i < 7) (h : i.toNat < 7) : ([.int .i64 0, .int .i64 2, .int .i64 4, .int .i64 (-1), .int .i64 1, .int .i64 3, .int .i64 5] : List Value)[i.toNat]'h = .int .i64 (fif7 i) := by
  obtain ⟨k, rfl⟩ := Int.eq_ofNat_of_zero_le h0
  have hk : k < 7 := by omega
  match k, hk with
  | 0, _ => rfl
  | 1, _ => rfl
  | 2, _ => rfl
  | 3, _ => rfl
  | 4, _ => rfl
  | 5, _ => rfl
  | 6, _ => rfl
def fifF (st al : Int) : Int := fif7 st + 7 * al

set_option maxHeartbeats 400000 in
theorem fifths_any (st al oc : Int) (h0 : 0 ≤ st) (h1 : st ≤ 6) (h2 : -2 ≤ al) (h3 : al ≤ 2) (w : World) :
    Calls Try.prog 38 #[.agg #[.int .i64 st, .int .i64 al, .int .i64 oc]] w fun e w' => e = .returned (.int .i64 (fifF st al)) ∧ Below w.heap.size w w' := by
  have hi : st < 7 := (by omega); have b1 := (fif7_bd st).1; have b2 := (fif7_bd st).2; have hL : ∀ h, ([.int .i64 0, .int .i64 2, .int .i64 4, .int .i64 (-1), .int .i64 1, .int .i64 3, .int .i64 5] : List Value)[st.toNat]'h = .int .i64 (fif7 st) := fun h => fif7_get _ h0 hi h; have e1 : IntKind.i64.wrap (7 * al) = 7 * al := wi64 _ (by omega); have e2 : IntKind.i64.wrap (fif7 st + 7 * al) = fif7 st + 7 * al := wi64 _ (by omega)
  go_enter Try.func38, Try.ntmps38
  go_wp2
  refine wp_world (fun W => W.cell? ⟨w.heap.size, 0, none⟩ = some (.int .i64 st) ∧ W.cell? ⟨w.heap.size, 1, none⟩ = some (.int .i64 al) ∧ (∀ o, W.frozen? ⟨w.heap.size, o, none⟩ = false) ∧ w.heap.size < W.heap.size ∧ Hid (Below w.heap.size w W)) ⟨(by go_simp), (by go_simp), (by intro o; go_simp), (by first | assumption | omega | (simp only [sizes]; omega) | (have hs_ := Past.size hP; simp only [sizes] at hs_ ⊢; omega) | (have hs_ := Past.size hP; simp only [sizes] at hs_; omega)), (hidden (by repeat (first | exact Below.refl _ _ | exact HB.out | exact fin4 HB hR6 (by omega) | exact fin2 HB ⟨hK1, hK2, hK3, hK4⟩ | refine fin ?_ hP | assumption | apply Below.drew | refine Below.alloc ?_ (by first | omega | (dsimp only; omega) | (simp only [sizes]; omega) | (simp; done)) _ | refine Below.setCell ?_ (by first | omega | (dsimp only; omega) | (simp only [sizes]; omega) | (simp; done)) _)))⟩ (fun W ⟨c0_0, c0_1, f0, hz0, HB⟩ => ?_)
  go_region
  go_wp2
  go_ret
  exact ⟨rfl, (by repeat (first | exact Below.refl _ _ | exact HB.out | exact fin4 HB hR6 (by omega) | exact fin2 HB ⟨hK1, hK2, hK3, hK4⟩ | refine fin ?_ hP | assumption | apply Below.drew | refine Below.alloc ?_ (by first | omega | (dsimp only; omega) | (simp only [sizes]; omega) | (simp; done)) _ | refine Below.setCell ?_ (by first | omega | (dsimp only; omega) | (simp only [sizes]; omega) | (simp; done)) _))⟩
set_option maxHeartbeats 400000 in
theorem l16Fifths_any (st al oc : Int) (h0 : 0 ≤ st) (h1 : st ≤ 6) (h2 : -2 ≤ al) (h3 : al ≤ 2) (w : World) :
    Calls Try.prog 37 #[.agg #[.int .i64 st, .int .i64 al, .int .i64 oc]] w fun e w' => e = .returned (.int .i64 (fifF st al)) ∧ Below w.heap.size w w' := by
  have hi : st < 7 := (by omega); have b1 := (fif7_bd st).1; have b2 := (fif7_bd st).2; have hL : ∀ h, ([.int .i64 0, .int .i64 2, .int .i64 4, .int .i64 (-1), .int .i64 1, .int .i64 3, .int .i64 5] : List Value)[st.toNat]'h = .int .i64 (fif7 st) := fun h => fif7_get _ h0 hi h; have e1 : IntKind.i64.wrap (7 * al) = 7 * al := wi64 _ (by omega); have e2 : IntKind.i64.wrap (fif7 st + 7 * al) = fif7 st + 7 * al := wi64 _ (by omega)
  go_enter Try.func37, Try.ntmps37
  go_wp2
  refine wp_world (fun W => W.cell? ⟨w.heap.size, 0, none⟩ = some (.int .i64 st) ∧ W.cell? ⟨w.heap.size, 1, none⟩ = some (.int .i64 al) ∧ (∀ o, W.frozen? ⟨w.heap.size, o, none⟩ = false) ∧ w.heap.size < W.heap.size ∧ Hid (Below w.heap.size w W)) ⟨(by go_simp), (by go_simp), (by intro o; go_simp), (by first | assumption | omega | (simp only [sizes]; omega) | (have hs_ := Past.size hP; simp only [sizes] at hs_ ⊢; omega) | (have hs_ := Past.size hP; simp only [sizes] at hs_; omega)), (hidden (by repeat (first | exact Below.refl _ _ | exact HB.out | exact fin4 HB hR6 (by omega) | exact fin2 HB ⟨hK1, hK2, hK3, hK4⟩ | refine fin ?_ hP | assumption | apply Below.drew | refine Below.alloc ?_ (by first | omega | (dsimp only; omega) | (simp only [sizes]; omega) | (simp; done)) _ | refine Below.setCell ?_ (by first | omega | (dsimp only; omega) | (simp only [sizes]; omega) | (simp; done)) _)))⟩ (fun W ⟨c0_0, c0_1, f0, hz0, HB⟩ => ?_)
  go_region
  go_wp2
  go_ret
  exact ⟨rfl, (by repeat (first | exact Below.refl _ _ | exact HB.out | exact fin4 HB hR6 (by omega) | exact fin2 HB ⟨hK1, hK2, hK3, hK4⟩ | refine fin ?_ hP | assumption | apply Below.drew | refine Below.alloc ?_ (by first | omega | (dsimp only; omega) | (simp only [sizes]; omega) | (simp; done)) _ | refine Below.setCell ?_ (by first | omega | (dsimp only; omega) | (simp only [sizes]; omega) | (simp; done)) _))⟩

theorem place_any (st al oc : Int) (h0 : 0 ≤ st) (h1 : st ≤ 1000) (h2 : -1000 ≤ oc) (h3 : oc ≤ 1000) (w : World) :
    Calls Try.prog 40 #[.agg #[.int .i64 st, .int .i64 al, .int .i64 oc]] w fun e w' => e = .returned (.int .i64 (7 * oc + st)) ∧ Below w.heap.size w w' := by
  have e1 : IntKind.i64.wrap (7 * oc) = 7 * oc := wi64 _ (by omega)
  have e2 : IntKind.i64.wrap (7 * oc + st) = 7 * oc + st := wi64 _ (by omega)
  go_enter Try.func40, Try.ntmps40
  go_wp2
  go_ret
  exact ⟨rfl, (by repeat (first | exact Below.refl _ _ | exact HB.out | exact fin4 HB hR6 (by omega) | exact fin2 HB ⟨hK1, hK2, hK3, hK4⟩ | refine fin ?_ hP | assumption | apply Below.drew | refine Below.alloc ?_ (by first | omega | (dsimp only; omega) | (simp only [sizes]; omega) | (simp; done)) _ | refine Below.setCell ?_ (by first | omega | (dsimp only; omega) | (simp only [sizes]; omega) | (simp; done)) _))⟩

set_option maxHeartbeats 400000 in
/-- toldInterval: the interval and 0, or nothing and 2. -/
theorem told_yes (a b : Int) (h : okI a b = true) (w : World) :
    Calls Try.prog 39 #[.agg #[.int .i64 a, .int .i64 b]] w fun e w' => e = .returned (.tuple #[.agg #[.int .i64 a, .int .i64 b], .int .i64 0]) ∧ Below w.heap.size w w' := by
  go_enter Try.func39, Try.ntmps39
  go_wp2_with (go_at_call 36; refine (isInterval_any _ _ _).mono ?_; rintro e w1 ⟨rfl, hb⟩; (first | (have hS_ := kept_step hP hb; clear hb; obtain ⟨hK, hP⟩ := hS_) | (have hS_ := kept_alloc hP hb; clear hb; obtain ⟨hK, hP, hK'⟩ := hS_) | (have hS_ := kept_alloc2 hP hb; clear hb; obtain ⟨hK, hP, hK'⟩ := hS_) | (have hS_ := kept_step (Past.drew0 _) hb; clear hb; obtain ⟨hK, hP⟩ := hS_) | (have hS_ := kept_step (Past.refl _) hb; clear hb; obtain ⟨hK, hP⟩ := hS_)))
  exact bodyPost_ret (v := .tuple #[.agg #[.int .i64 a, .int .i64 b], .int .i64 0]) (by simp [results, Try.results39, go_sem, *]) rfl ⟨rfl, (by repeat (first | exact Below.refl _ _ | exact HB.out | exact fin4 HB hR6 (by omega) | exact fin2 HB ⟨hK1, hK2, hK3, hK4⟩ | refine fin ?_ hP | assumption | apply Below.drew | refine Below.alloc ?_ (by first | omega | (dsimp only; omega) | (simp only [sizes]; omega) | (simp; done)) _ | refine Below.setCell ?_ (by first | omega | (dsimp only; omega) | (simp only [sizes]; omega) | (simp; done)) _))⟩
set_option maxHeartbeats 400000 in
theorem told_no (a b : Int) (h : okI a b = false) (w : World) :
    Calls Try.prog 39 #[.agg #[.int .i64 a, .int .i64 b]] w fun e w' => e = .returned (.tuple #[.agg #[.int .i64 0, .int .i64 0], .int .i64 2]) ∧ Below w.heap.size w w' := by
  go_enter Try.func39, Try.ntmps39
  go_wp2_with (go_at_call 36; refine (isInterval_any _ _ _).mono ?_; rintro e w1 ⟨rfl, hb⟩; (first | (have hS_ := kept_step hP hb; clear hb; obtain ⟨hK, hP⟩ := hS_) | (have hS_ := kept_alloc hP hb; clear hb; obtain ⟨hK, hP, hK'⟩ := hS_) | (have hS_ := kept_alloc2 hP hb; clear hb; obtain ⟨hK, hP, hK'⟩ := hS_) | (have hS_ := kept_step (Past.drew0 _) hb; clear hb; obtain ⟨hK, hP⟩ := hS_) | (have hS_ := kept_step (Past.refl _) hb; clear hb; obtain ⟨hK, hP⟩ := hS_)))
  exact bodyPost_ret (v := .tuple #[.agg #[.int .i64 0, .int .i64 0], .int .i64 2]) (by simp [results, Try.results39, go_sem, *]) rfl ⟨rfl, (by repeat (first | exact Below.refl _ _ | exact HB.out | exact fin4 HB hR6 (by omega) | exact fin2 HB ⟨hK1, hK2, hK3, hK4⟩ | refine fin ?_ hP | assumption | apply Below.drew | refine Below.alloc ?_ (by first | omega | (dsimp only; omega) | (simp only [sizes]; omega) | (simp; done)) _ | refine Below.setCell ?_ (by first | omega | (dsimp only; omega) | (simp only [sizes]; omega) | (simp; done)) _))⟩
end Go.Proofs.Ytniaandjfafdkaa
