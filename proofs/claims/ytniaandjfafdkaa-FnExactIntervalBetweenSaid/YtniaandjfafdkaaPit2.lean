/- Contracts of the functions on pitches and intervals, continued. Conditions: as each says. -/
import Derived.Test.YtniaandjfafdkaaPit1
namespace Go.Proofs.Ytniaandjfafdkaa
open Go.RowKit

theorem toInterval_any (a b : Int) (w : World) :
    Calls Try.prog 17 #[.agg #[.int .i64 a, .int .i64 b]] w fun e w' => e = .returned (.agg #[.int .i64 a, .int .i64 b]) ∧ Below w.heap.size w w' := by
  go_enter Try.func17, Try.ntmps17
  go_wp2
  exact bodyPost_ret (v := .agg #[.int .i64 a, .int .i64 b]) (by simp [results, Try.results17, go_sem]) rfl ⟨rfl, (by repeat (first | exact Below.refl _ _ | exact HB.out | exact fin4 HB hR6 (by omega) | exact fin2 HB ⟨hK1, hK2, hK3, hK4⟩ | refine fin ?_ hP | assumption | apply Below.drew | refine Below.alloc ?_ (by first | omega | (dsimp only; omega) | (simp only [sizes]; omega) | (simp; done)) _ | refine Below.setCell ?_ (by first | omega | (dsimp only; omega) | (simp only [sizes]; omega) | (simp; done)) _))⟩

theorem opposite_any (a b : Int) (h0 : -1000 ≤ a) (h1 : a ≤ 1000) (h2 : -1000 ≤ b) (h3 : b ≤ 1000) (w : World) :
    Calls Try.prog 52 #[.agg #[.int .i64 a, .int .i64 b]] w fun e w' => e = .returned (.agg #[.int .i64 (-a), .int .i64 (-b)]) ∧ Below w.heap.size w w' := by
  have e1 : IntKind.i64.wrap (-a) = -a := wi64 _ (by omega)
  have e2 : IntKind.i64.wrap (-b) = -b := wi64 _ (by omega)
  go_enter Try.func52, Try.ntmps52
  go_wp2
  exact bodyPost_ret (v := .agg #[.int .i64 (-a), .int .i64 (-b)]) (by simp [results, Try.results52, go_sem]) rfl ⟨rfl, (by repeat (first | exact Below.refl _ _ | exact HB.out | exact fin4 HB hR6 (by omega) | exact fin2 HB ⟨hK1, hK2, hK3, hK4⟩ | refine fin ?_ hP | assumption | apply Below.drew | refine Below.alloc ?_ (by first | omega | (dsimp only; omega) | (simp only [sizes]; omega) | (simp; done)) _ | refine Below.setCell ?_ (by first | omega | (dsimp only; omega) | (simp only [sizes]; omega) | (simp; done)) _))⟩

def absF (a : Int) : Int := if a < 0 then -a else a
def overF (a b : Int) : Int := if a < 0 then -b - natF (-a) else b - natF a
def okI (a b : Int) : Bool := inB a (-28) 28 && (inB b (-100) 100 && inB (overF a b) (-3) 3)
theorem okI_cases (a b : Int) : (inB a (-28) 28 = false ∧ Hid (okI a b = false)) ∨ (inB a (-28) 28 = true ∧ inB b (-100) 100 = false ∧ Hid (okI a b = false)) ∨
    (inB a (-28) 28 = true ∧ inB b (-100) 100 = true ∧ -28 ≤ a ∧ a ≤ 28 ∧ -100 ≤ b ∧ b ≤ 100 ∧ Hid (okI a b = inB (overF a b) (-3) 3)) := by
  by_cases h1 : inB a (-28) 28 = true
  · by_cases h2 : inB b (-100) 100 = true
    · have x := (inB_iff _ _ _).1 h1
      have y := (inB_iff _ _ _).1 h2
      exact .inr (.inr ⟨h1, h2, x.1, x.2, y.1, y.2, by simp [Hid, okI, h1, h2]⟩)
    · exact .inr (.inl ⟨h1, by simpa using h2, by simp [Hid, okI, h2]⟩)
  · exact .inl ⟨by simpa using h1, by simp [Hid, okI, h1]⟩

set_option maxHeartbeats 400000 in
theorem isInterval_any (a b : Int) (w : World) :
    Calls Try.prog 36 #[.agg #[.int .i64 a, .int .i64 b]] w fun e w' => e = .returned (.bool (okI a b)) ∧ Below w.heap.size w w' := by
  rcases okI_cases a b with ⟨h1, H⟩ | ⟨h1, h2, H⟩ | ⟨h1, h2, b1, b2, b3, b4, H⟩
  · go_enter Try.func36, Try.ntmps36
    go_wp2_with (go_at_call 44; refine (within_any _ _ _ _).mono ?_; rintro e w1 ⟨rfl, rfl⟩)
    go_ret
    exact ⟨ret_bool (by rw [H.out]), (by repeat (first | exact Below.refl _ _ | exact HB.out | exact fin4 HB hR6 (by omega) | exact fin2 HB ⟨hK1, hK2, hK3, hK4⟩ | refine fin ?_ hP | assumption | apply Below.drew | refine Below.alloc ?_ (by first | omega | (dsimp only; omega) | (simp only [sizes]; omega) | (simp; done)) _ | refine Below.setCell ?_ (by first | omega | (dsimp only; omega) | (simp only [sizes]; omega) | (simp; done)) _))⟩
  · go_enter Try.func36, Try.ntmps36
    go_wp2_with (go_at_call 44; refine (within_any _ _ _ _).mono ?_; rintro e w1 ⟨rfl, rfl⟩)
    go_ret
    exact ⟨ret_bool (by rw [H.out]), (by repeat (first | exact Below.refl _ _ | exact HB.out | exact fin4 HB hR6 (by omega) | exact fin2 HB ⟨hK1, hK2, hK3, hK4⟩ | refine fin ?_ hP | assumption | apply Below.drew | refine Below.alloc ?_ (by first | omega | (dsimp only; omega) | (simp only [sizes]; omega) | (simp; done)) _ | refine Below.setCell ?_ (by first | omega | (dsimp only; omega) | (simp only [sizes]; omega) | (simp; done)) _))⟩
  · have hn0 := (natF_bd a)
    have hn1 := (natF_bd (-a))
    by_cases hneg : a < 0
    · have h5 := hn1 (by omega) (by omega)
      have h50 := h5.1
      have h51 := h5.2
      clear h5 hn0 hn1
      have e1 : IntKind.i64.wrap (-b - natF (-a)) = -b - natF (-a) := wi64 _ (by omega)
      have H2 : Hid (overF a b = -b - natF (-a)) := by unfold overF; rw [if_pos hneg]; rfl
      go_enter Try.func36, Try.ntmps36
      go_wp2_with (first | (go_at_call 44; refine (within_any _ _ _ _).mono ?_; rintro e w1 ⟨rfl, rfl⟩) | (go_at_call 52; refine (opposite_any _ _ (by omega) (by omega) (by omega) (by omega) _).mono ?_; rintro e w1 ⟨rfl, hb⟩; (first | (have hS_ := kept_step hP hb; clear hb; obtain ⟨hK, hP⟩ := hS_) | (have hS_ := kept_alloc hP hb; clear hb; obtain ⟨hK, hP, hK'⟩ := hS_) | (have hS_ := kept_alloc2 hP hb; clear hb; obtain ⟨hK, hP, hK'⟩ := hS_) | (have hS_ := kept_step (Past.drew0 _) hb; clear hb; obtain ⟨hK, hP⟩ := hS_) | (have hS_ := kept_step (Past.refl _) hb; clear hb; obtain ⟨hK, hP⟩ := hS_))))
      refine wp_world (fun W => W.cell? ⟨w.heap.size, 0, none⟩ = some (.int .i64 (-a)) ∧ W.cell? ⟨w.heap.size, 1, none⟩ = some (.int .i64 (-b)) ∧ (∀ o, W.frozen? ⟨w.heap.size, o, none⟩ = false) ∧ w.heap.size < W.heap.size ∧ Hid (Below w.heap.size w W)) ⟨(by go_simp), (by go_simp), (by intro o; go_simp), (by first | assumption | omega | (simp only [sizes]; omega) | (have hs_ := Past.size hP; simp only [sizes] at hs_ ⊢; omega) | (have hs_ := Past.size hP; simp only [sizes] at hs_; omega)), (hidden (by repeat (first | exact Below.refl _ _ | exact HB.out | exact fin4 HB hR6 (by omega) | exact fin2 HB ⟨hK1, hK2, hK3, hK4⟩ | refine fin ?_ hP | assumption | apply Below.drew | refine Below.alloc ?_ (by first | omega | (dsimp only; omega) | (simp only [sizes]; omega) | (simp; done)) _ | refine Below.setCell ?_ (by first | omega | (dsimp only; omega) | (simp only [sizes]; omega) | (simp; done)) _)))⟩ (fun W ⟨c0_0, c0_1, f0, hz0, HB⟩ => ?_)
      go_region_held3 (fun w' => Kept W w') ((first | assumption | exact Kept.start _ | (refine Kept.keep hb ?_; assumption) | exact Kept.alloc ⟨hK1, hK2, hK3, hK4⟩ _ | (refine Kept.alloc ?_ _; assumption) | (refine Kept.drew (Kept.alloc0 _ _)) | ((repeat (first | refine Kept.set ?_ (by first | assumption | omega | (simp; done) | (simp; omega)) _ | refine Kept.alloc ?_ _)); first | assumption | exact ⟨hK1, hK2, hK3, hK4⟩))) (first | (go_at_call 50; refine (natural_any _ (by omega) (by omega) _).mono ?_; rintro e w1 ⟨rfl, hb⟩) | (go_at_call 44; refine (within_any _ _ _ _).mono ?_; rintro e w1 ⟨rfl, rfl⟩))
      go_wp2
      go_ret
      exact ⟨ret_bool (by rw [H.out, H2.out]), fin2 HB (by assumption)⟩
    · have h5 := hn0 (by omega) (by omega)
      have h50 := h5.1
      have h51 := h5.2
      clear h5 hn0 hn1
      have e1 : IntKind.i64.wrap (b - natF a) = b - natF a := wi64 _ (by omega)
      have H2 : Hid (overF a b = b - natF a) := by unfold overF; rw [if_neg hneg]; rfl
      go_enter Try.func36, Try.ntmps36
      go_wp2_with (first | (go_at_call 44; refine (within_any _ _ _ _).mono ?_; rintro e w1 ⟨rfl, rfl⟩) | (go_at_call 52; refine (opposite_any _ _ (by omega) (by omega) (by omega) (by omega) _).mono ?_; rintro e w1 ⟨rfl, hb⟩; (first | (have hS_ := kept_step hP hb; clear hb; obtain ⟨hK, hP⟩ := hS_) | (have hS_ := kept_alloc hP hb; clear hb; obtain ⟨hK, hP, hK'⟩ := hS_) | (have hS_ := kept_alloc2 hP hb; clear hb; obtain ⟨hK, hP, hK'⟩ := hS_) | (have hS_ := kept_step (Past.drew0 _) hb; clear hb; obtain ⟨hK, hP⟩ := hS_) | (have hS_ := kept_step (Past.refl _) hb; clear hb; obtain ⟨hK, hP⟩ := hS_))))
      refine wp_world (fun W => W.cell? ⟨w.heap.size, 0, none⟩ = some (.int .i64 a) ∧ W.cell? ⟨w.heap.size, 1, none⟩ = some (.int .i64 b) ∧ (∀ o, W.frozen? ⟨w.heap.size, o, none⟩ = false) ∧ w.heap.size < W.heap.size ∧ Hid (Below w.heap.size w W)) ⟨(by go_simp), (by go_simp), (by intro o; go_simp), (by first | assumption | omega | (simp only [sizes]; omega) | (have hs_ := Past.size hP; simp only [sizes] at hs_ ⊢; omega) | (have hs_ := Past.size hP; simp only [sizes] at hs_; omega)), (hidden (by repeat (first | exact Below.refl _ _ | exact HB.out | exact fin4 HB hR6 (by omega) | exact fin2 HB ⟨hK1, hK2, hK3, hK4⟩ | refine fin ?_ hP | assumption | apply Below.drew | refine Below.alloc ?_ (by first | omega | (dsimp only; omega) | (simp only [sizes]; omega) | (simp; done)) _ | refine Below.setCell ?_ (by first | omega | (dsimp only; omega) | (simp only [sizes]; omega) | (simp; done)) _)))⟩ (fun W ⟨c0_0, c0_1, f0, hz0, HB⟩ => ?_)
      go_region_held3 (fun w' => Kept W w') ((first | assumption | exact Kept.start _ | (refine Kept.keep hb ?_; assumption) | exact Kept.alloc ⟨hK1, hK2, hK3, hK4⟩ _ | (refine Kept.alloc ?_ _; assumption) | (refine Kept.drew (Kept.alloc0 _ _)) | ((repeat (first | refine Kept.set ?_ (by first | assumption | omega | (simp; done) | (simp; omega)) _ | refine Kept.alloc ?_ _)); first | assumption | exact ⟨hK1, hK2, hK3, hK4⟩))) (first | (go_at_call 50; refine (natural_any _ (by omega) (by omega) _).mono ?_; rintro e w1 ⟨rfl, hb⟩) | (go_at_call 44; refine (within_any _ _ _ _).mono ?_; rintro e w1 ⟨rfl, rfl⟩))
      go_wp2
      go_ret
      exact ⟨ret_bool (by rw [H.out, H2.out]), fin2 HB (by assumption)⟩

set_option maxHeartbeats 400000 in
theorem l16Over_any (a b : Int) (h0 : -100 ≤ a) (h1 : a ≤ 100) (h2 : -1000 ≤ b) (h3 : b ≤ 1000) (w : World) :
    Calls Try.prog 51 #[.agg #[.int .i64 a, .int .i64 b]] w fun e w' => e = .returned (.tuple #[.int .i64 (overF a b), .int .i64 (absF a)]) ∧ Below w.heap.size w w' := by
  have hn0 := natF_bd a
  have hn1 := natF_bd (-a)
  by_cases hneg : a < 0
  · have h5 := hn1 (by omega) (by omega)
    have h50 := h5.1
    have h51 := h5.2
    clear h5 hn0 hn1
    have e1 : IntKind.i64.wrap (-b - natF (-a)) = -b - natF (-a) := wi64 _ (by omega)
    have e2 : IntKind.i64.wrap (-a) = -a := wi64 _ (by omega)
    have e3 : IntKind.i64.wrap (-b) = -b := wi64 _ (by omega)
    have H2 : Hid (overF a b = -b - natF (-a)) := by unfold overF; rw [if_pos hneg]; rfl
    have H3 : Hid (absF a = -a) := by unfold absF; rw [if_pos hneg]; rfl
    go_enter Try.func51, Try.ntmps51
    go_wp2
    refine wp_world (fun W => W.cell? ⟨w.heap.size, 0, none⟩ = some (.int .i64 a) ∧ W.cell? ⟨w.heap.size, 1, none⟩ = some (.int .i64 b) ∧ (∀ o, W.frozen? ⟨w.heap.size, o, none⟩ = false) ∧ w.heap.size < W.heap.size ∧ Hid (Below w.heap.size w W)) ⟨(by go_simp), (by go_simp), (by intro o; go_simp), (by first | assumption | omega | (simp only [sizes]; omega) | (have hs_ := Past.size hP; simp only [sizes] at hs_ ⊢; omega) | (have hs_ := Past.size hP; simp only [sizes] at hs_; omega)), (hidden (by repeat (first | exact Below.refl _ _ | exact HB.out | exact fin4 HB hR6 (by omega) | exact fin2 HB ⟨hK1, hK2, hK3, hK4⟩ | refine fin ?_ hP | assumption | apply Below.drew | refine Below.alloc ?_ (by first | omega | (dsimp only; omega) | (simp only [sizes]; omega) | (simp; done)) _ | refine Below.setCell ?_ (by first | omega | (dsimp only; omega) | (simp only [sizes]; omega) | (simp; done)) _)))⟩ (fun W ⟨c0_0, c0_1, f0, hz0, HB⟩ => ?_)
    go_region_held3 (fun w' => Kept W w') ((first | assumption | exact Kept.start _ | (refine Kept.keep hb ?_; assumption) | exact Kept.alloc ⟨hK1, hK2, hK3, hK4⟩ _ | (refine Kept.alloc ?_ _; assumption) | (refine Kept.drew (Kept.alloc0 _ _)) | ((repeat (first | refine Kept.set ?_ (by first | assumption | omega | (simp; done) | (simp; omega)) _ | refine Kept.alloc ?_ _)); first | assumption | exact ⟨hK1, hK2, hK3, hK4⟩))) ((go_at_call 49; refine (l16Natural_any _ (by omega) (by omega) _).mono ?_; rintro e w1 ⟨rfl, hb⟩))
    go_wp2
    go_ret2
    exact ⟨by rw [H2.out, H3.out]; rfl, fin2 HB (by assumption)⟩
  · have h5 := hn0 (by omega) (by omega)
    have h50 := h5.1
    have h51 := h5.2
    clear h5 hn0 hn1
    have e1 : IntKind.i64.wrap (b - natF a) = b - natF a := wi64 _ (by omega)
    have H2 : Hid (overF a b = b - natF a) := by unfold overF; rw [if_neg hneg]; rfl
    have H3 : Hid (absF a = a) := by unfold absF; rw [if_neg hneg]; rfl
    go_enter Try.func51, Try.ntmps51
    go_wp2
    refine wp_world (fun W => W.cell? ⟨w.heap.size, 0, none⟩ = some (.int .i64 a) ∧ W.cell? ⟨w.heap.size, 1, none⟩ = some (.int .i64 b) ∧ (∀ o, W.frozen? ⟨w.heap.size, o, none⟩ = false) ∧ w.heap.size < W.heap.size ∧ Hid (Below w.heap.size w W)) ⟨(by go_simp), (by go_simp), (by intro o; go_simp), (by first | assumption | omega | (simp only [sizes]; omega) | (have hs_ := Past.size hP; simp only [sizes] at hs_ ⊢; omega) | (have hs_ := Past.size hP; simp only [sizes] at hs_; omega)), (hidden (by repeat (first | exact Below.refl _ _ | exact HB.out | exact fin4 HB hR6 (by omega) | exact fin2 HB ⟨hK1, hK2, hK3, hK4⟩ | refine fin ?_ hP | assumption | apply Below.drew | refine Below.alloc ?_ (by first | omega | (dsimp only; omega) | (simp only [sizes]; omega) | (simp; done)) _ | refine Below.setCell ?_ (by first | omega | (dsimp only; omega) | (simp only [sizes]; omega) | (simp; done)) _)))⟩ (fun W ⟨c0_0, c0_1, f0, hz0, HB⟩ => ?_)
    go_region_held3 (fun w' => Kept W w') ((first | assumption | exact Kept.start _ | (refine Kept.keep hb ?_; assumption) | exact Kept.alloc ⟨hK1, hK2, hK3, hK4⟩ _ | (refine Kept.alloc ?_ _; assumption) | (refine Kept.drew (Kept.alloc0 _ _)) | ((repeat (first | refine Kept.set ?_ (by first | assumption | omega | (simp; done) | (simp; omega)) _ | refine Kept.alloc ?_ _)); first | assumption | exact ⟨hK1, hK2, hK3, hK4⟩))) ((go_at_call 49; refine (l16Natural_any _ (by omega) (by omega) _).mono ?_; rintro e w1 ⟨rfl, hb⟩))
    go_wp2
    go_ret2
    exact ⟨by rw [H2.out, H3.out]; rfl, fin2 HB (by assumption)⟩
set_option maxHeartbeats 400000 in
theorem l16Interval_any (a b : Int) (w : World) :
    Calls Try.prog 35 #[.agg #[.int .i64 a, .int .i64 b]] w fun e w' => e = .returned (.bool (okI a b)) ∧ Below w.heap.size w w' := by
  rcases okI_cases a b with ⟨h1, H⟩ | ⟨h1, h2, H⟩ | ⟨h1, h2, b1, b2, b3, b4, H⟩
  all_goals
    go_enter Try.func35, Try.ntmps35
    go_wp2_with (first | (go_at_call 41; refine (l00In_any _ _ _ _).mono ?_; rintro e w1 ⟨rfl, rfl⟩) | (go_at_call 51; refine (l16Over_any _ _ (by omega) (by omega) (by omega) (by omega) _).mono ?_; rintro e w1 ⟨rfl, hb⟩; (first | (have hS_ := kept_step hP hb; clear hb; obtain ⟨hK, hP⟩ := hS_) | (have hS_ := kept_alloc hP hb; clear hb; obtain ⟨hK, hP, hK'⟩ := hS_) | (have hS_ := kept_alloc2 hP hb; clear hb; obtain ⟨hK, hP, hK'⟩ := hS_) | (have hS_ := kept_step (Past.drew0 _) hb; clear hb; obtain ⟨hK, hP⟩ := hS_) | (have hS_ := kept_step (Past.refl _) hb; clear hb; obtain ⟨hK, hP⟩ := hS_))))
    go_ret
    exact ⟨ret_bool (by rw [H.out]), (by repeat (first | exact Below.refl _ _ | exact HB.out | exact fin4 HB hR6 (by omega) | exact fin2 HB ⟨hK1, hK2, hK3, hK4⟩ | refine fin ?_ hP | assumption | apply Below.drew | refine Below.alloc ?_ (by first | omega | (dsimp only; omega) | (simp only [sizes]; omega) | (simp; done)) _ | refine Below.setCell ?_ (by first | omega | (dsimp only; omega) | (simp only [sizes]; omega) | (simp; done)) _))⟩
end Go.Proofs.Ytniaandjfafdkaa
