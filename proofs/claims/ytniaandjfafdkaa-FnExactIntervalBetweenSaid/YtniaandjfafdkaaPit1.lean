/- Contracts of the functions on pitches and intervals, program and reference. Conditions: as each says. -/
import Derived.Test.YtniaandjfafdkaaGen
namespace Go.Proofs.Ytniaandjfafdkaa
open Go.RowKit



set_option maxHeartbeats 400000 in
theorem within_any (n lo hi : Int) (w : World) :
    Calls Try.prog 44 #[.int .i64 n, .int .i64 lo, .int .i64 hi] w fun e w' => e = .returned (.bool (inB n lo hi)) ∧ w = w' := by
  go_enter Try.func44, Try.ntmps44
  go_wp2
  all_goals (go_ret; exact ⟨ret_bool (by simp [inB]; omega), rfl⟩)
set_option maxHeartbeats 400000 in
theorem l00In_any (n lo hi : Int) (w : World) :
    Calls Try.prog 41 #[.int .i64 n, .int .i64 lo, .int .i64 hi] w fun e w' => e = .returned (.bool (inB n lo hi)) ∧ w = w' := by
  go_enter Try.func41, Try.ntmps41
  go_wp2
  all_goals (go_ret; exact ⟨ret_bool (by simp [inB]; omega), rfl⟩)

def nat7 (i : Int) : Int := if i = 0 then 0 else if i = 1 then 2 else if i = 2 then 4 else if i = 3 then 5 else if i = 4 then 7 else if i = 5 then 9 else 11
theorem nat7_bd (i : Int) : 0 ≤ nat7 i ∧ nat7 i ≤ 11 := by
  unfold nat7
  repeat' split
  all_goals omega
theorem nat7_get (i : Int) (h0 : 0 ≤ i) (h1 : i < 7) (h : i.toNat < 7) : ([.int .i64 0, .int .i64 2, .int .i64 4, .int .i64 5, .int .i64 7, .int .i64 9, .int .i64 11] : List Value)[i.toNat]'h = .int .i64 (nat7 i) := by
  obtain ⟨k, rfl⟩ := Int.eq_ofNat_of_zero_le h0
  have hk : k < 7 := by omega
  match k, hk with
  | 0, _ => rfl
  | 1, _ => rfl
  | 2, _ => rfl
  | 3, _ => rfl
  | 4, _ => rfl
  | 5, _ => rfl
  | 6, _ => rfl
def natF (s : Int) : Int := 12 * (s / 7) + nat7 (s % 7)
theorem natF_bd (st : Int) (h0 : 0 ≤ st) (h1 : st ≤ 100) : 0 ≤ natF st ∧ natF st ≤ 200 := by have := nat7_bd (st % 7); unfold natF; omega


set_option maxHeartbeats 400000 in
theorem natural_any (s : Int) (h0 : 0 ≤ s) (h1 : s ≤ 1000) (w : World) :
    Calls Try.prog 50 #[.int .i64 s] w fun e w' => e = .returned (.int .i64 (natF s)) ∧ Below w.heap.size w w' := by
  have hm0 : 0 ≤ s % 7 := (by omega); have hm1 : s % 7 < 7 := (by omega); have hd0 : 0 ≤ s / 7 := (by omega); have hd1 : s / 7 ≤ 1000 := (by omega); have hb0 := (nat7_bd (s % 7)).1; have hb1 := (nat7_bd (s % 7)).2; have hL : ∀ h, ([.int .i64 0, .int .i64 2, .int .i64 4, .int .i64 5, .int .i64 7, .int .i64 9, .int .i64 11] : List Value)[(s % 7).toNat]'h = .int .i64 (nat7 (s % 7)) := fun h => nat7_get _ hm0 hm1 h
  go_enter Try.func50, Try.ntmps50
  go_wp2
  go_ret
  exact ⟨rfl, (Below.refl _ _).alloc (Nat.le_refl _) _⟩
set_option maxHeartbeats 400000 in
theorem l16Natural_any (s : Int) (h0 : 0 ≤ s) (h1 : s ≤ 1000) (w : World) :
    Calls Try.prog 49 #[.int .i64 s] w fun e w' => e = .returned (.int .i64 (natF s)) ∧ Below w.heap.size w w' := by
  have hm0 : 0 ≤ s % 7 := (by omega); have hm1 : s % 7 < 7 := (by omega); have hd0 : 0 ≤ s / 7 := (by omega); have hd1 : s / 7 ≤ 1000 := (by omega); have hb0 := (nat7_bd (s % 7)).1; have hb1 := (nat7_bd (s % 7)).2; have hL : ∀ h, ([.int .i64 0, .int .i64 2, .int .i64 4, .int .i64 5, .int .i64 7, .int .i64 9, .int .i64 11] : List Value)[(s % 7).toNat]'h = .int .i64 (nat7 (s % 7)) := fun h => nat7_get _ hm0 hm1 h
  go_enter Try.func49, Try.ntmps49
  go_wp2
  go_ret
  exact ⟨rfl, (Below.refl _ _).alloc (Nat.le_refl _) _⟩

def keyF (st al oc : Int) : Int := 12 * (oc + 1) + natF st + al

set_option maxHeartbeats 400000 in
theorem keyOf_any (st al oc : Int) (h0 : 0 ≤ st) (h1 : st ≤ 6) (h2 : -1000 ≤ al) (h3 : al ≤ 1000) (h4 : -1000 ≤ oc) (h5 : oc ≤ 1000) (w : World) :
    Calls Try.prog 34 #[.agg #[.int .i64 st, .int .i64 al, .int .i64 oc]] w fun e w' => e = .returned (.int .i64 (keyF st al oc)) ∧ Below w.heap.size w w' := by
  have hn0 := (natF_bd st h0 (by omega)).1
  have hn1 := (natF_bd st h0 (by omega)).2
  have e1 : IntKind.i64.wrap (oc + 1) = oc + 1 := wi64 _ (by omega); have e2 : IntKind.i64.wrap (12 * (oc + 1)) = 12 * (oc + 1) := wi64 _ (by omega); have e3 : IntKind.i64.wrap (12 * (oc + 1) + natF st) = 12 * (oc + 1) + natF st := wi64 _ (by omega); have e4 : IntKind.i64.wrap (12 * (oc + 1) + natF st + al) = 12 * (oc + 1) + natF st + al := wi64 _ (by omega)
  go_enter Try.func34, Try.ntmps34
  go_wp2
  refine wp_box fun W hz hc hf HB => ?_
  go_region_held3 (fun w' => Kept W w') ((first | assumption | exact Kept.start _ | (refine Kept.keep hb ?_; assumption) | exact Kept.alloc ⟨hK1, hK2, hK3, hK4⟩ _ | (refine Kept.alloc ?_ _; assumption) | (refine Kept.drew (Kept.alloc0 _ _)) | ((repeat (first | refine Kept.set ?_ (by first | assumption | omega | (simp; done) | (simp; omega)) _ | refine Kept.alloc ?_ _)); first | assumption | exact ⟨hK1, hK2, hK3, hK4⟩))) ((go_at_call 50; refine (natural_any _ (by omega) (by omega) _).mono ?_; rintro e w1 ⟨rfl, hb⟩))
  go_wp2
  go_ret
  exact ⟨rfl, fin2 HB (by assumption)⟩
set_option maxHeartbeats 400000 in
theorem l16Key_any (st al oc : Int) (h0 : 0 ≤ st) (h1 : st ≤ 6) (h2 : -1000 ≤ al) (h3 : al ≤ 1000) (h4 : -1000 ≤ oc) (h5 : oc ≤ 1000) (w : World) :
    Calls Try.prog 33 #[.agg #[.int .i64 st, .int .i64 al, .int .i64 oc]] w fun e w' => e = .returned (.int .i64 (keyF st al oc)) ∧ Below w.heap.size w w' := by
  have hn0 := (natF_bd st h0 (by omega)).1
  have hn1 := (natF_bd st h0 (by omega)).2
  have e1 : IntKind.i64.wrap (oc + 1) = oc + 1 := wi64 _ (by omega); have e2 : IntKind.i64.wrap (12 * (oc + 1)) = 12 * (oc + 1) := wi64 _ (by omega); have e3 : IntKind.i64.wrap (12 * (oc + 1) + natF st) = 12 * (oc + 1) + natF st := wi64 _ (by omega); have e4 : IntKind.i64.wrap (12 * (oc + 1) + natF st + al) = 12 * (oc + 1) + natF st + al := wi64 _ (by omega)
  go_enter Try.func33, Try.ntmps33
  go_wp2
  refine wp_box fun W hz hc hf HB => ?_
  go_region_held3 (fun w' => Kept W w') ((first | assumption | exact Kept.start _ | (refine Kept.keep hb ?_; assumption) | exact Kept.alloc ⟨hK1, hK2, hK3, hK4⟩ _ | (refine Kept.alloc ?_ _; assumption) | (refine Kept.drew (Kept.alloc0 _ _)) | ((repeat (first | refine Kept.set ?_ (by first | assumption | omega | (simp; done) | (simp; omega)) _ | refine Kept.alloc ?_ _)); first | assumption | exact ⟨hK1, hK2, hK3, hK4⟩))) ((go_at_call 49; refine (l16Natural_any _ (by omega) (by omega) _).mono ?_; rintro e w1 ⟨rfl, hb⟩))
  go_wp2
  go_ret
  exact ⟨rfl, fin2 HB (by assumption)⟩

def okP (st al oc : Int) : Bool := inB st 0 6 && (inB al (-2) 2 && (inB oc (-1) 9 && inB (keyF st al oc) 0 127))
theorem okP_iff (st al oc : Int) : okP st al oc = true ↔ (0 ≤ st ∧ st ≤ 6) ∧ (-2 ≤ al ∧ al ≤ 2) ∧ (-1 ≤ oc ∧ oc ≤ 9) ∧ 0 ≤ keyF st al oc ∧ keyF st al oc ≤ 127 := by
  simp [okP, inB_iff]
theorem okP_cases (st al oc : Int) : (inB st 0 6 = false ∧ Hid (okP st al oc = false)) ∨ (inB st 0 6 = true ∧ inB al (-2) 2 = false ∧ Hid (okP st al oc = false)) ∨
    (inB st 0 6 = true ∧ inB al (-2) 2 = true ∧ inB oc (-1) 9 = false ∧ Hid (okP st al oc = false)) ∨
    (inB st 0 6 = true ∧ inB al (-2) 2 = true ∧ inB oc (-1) 9 = true ∧ 0 ≤ st ∧ st ≤ 6 ∧ -2 ≤ al ∧ al ≤ 2 ∧ -1 ≤ oc ∧ oc ≤ 9 ∧ Hid (okP st al oc = inB (keyF st al oc) 0 127)) := by
  by_cases h1 : inB st 0 6 = true
  · by_cases h2 : inB al (-2) 2 = true
    · by_cases h3 : inB oc (-1) 9 = true
      · have a := (inB_iff _ _ _).1 h1
        have b := (inB_iff _ _ _).1 h2
        have c := (inB_iff _ _ _).1 h3
        exact .inr (.inr (.inr ⟨h1, h2, h3, a.1, a.2, b.1, b.2, c.1, c.2, by simp [Hid, okP, h1, h2, h3]⟩))
      · exact .inr (.inr (.inl ⟨h1, h2, by simpa using h3, by simp [Hid, okP, h3]⟩))
    · exact .inr (.inl ⟨h1, by simpa using h2, by simp [Hid, okP, h2]⟩)
  · exact .inl ⟨by simpa using h1, by simp [Hid, okP, h1]⟩

set_option maxHeartbeats 400000 in
theorem isKey_any (n : Int) (w : World) : Calls Try.prog 43 #[.int .i64 n] w fun e w' => e = .returned (.bool (inB n 0 127)) ∧ w = w' := by
  go_enter Try.func43, Try.ntmps43
  go_wp2_with (go_at_call 44; refine (within_any _ _ _ _).mono ?_; rintro e w1 ⟨rfl, rfl⟩)
  go_ret; exact ⟨rfl, rfl⟩

set_option maxHeartbeats 400000 in
theorem isPitch_any (st al oc : Int) (w : World) :
    Calls Try.prog 32 #[.agg #[.int .i64 st, .int .i64 al, .int .i64 oc]] w fun e w' => e = .returned (.bool (okP st al oc)) ∧ Below w.heap.size w w' := by
  rcases okP_cases st al oc with ⟨h1, H⟩ | ⟨h1, h2, H⟩ | ⟨h1, h2, h3, H⟩ | ⟨h1, h2, h3, b1, b2, b3, b4, b5, b6, H⟩
  all_goals
    go_enter Try.func32, Try.ntmps32
    go_wp2_with (first | (go_at_call 44; refine (within_any _ _ _ _).mono ?_; rintro e w1 ⟨rfl, rfl⟩) | (go_at_call 43; refine (isKey_any _ _).mono ?_; rintro e w1 ⟨rfl, rfl⟩) | (go_at_call 34; refine (keyOf_any _ _ _ (by omega) (by omega) (by omega) (by omega) (by omega) (by omega) _).mono ?_; rintro e w1 ⟨rfl, hb⟩; (first | (have hS_ := kept_step hP hb; clear hb; obtain ⟨hK, hP⟩ := hS_) | (have hS_ := kept_alloc hP hb; clear hb; obtain ⟨hK, hP, hK'⟩ := hS_) | (have hS_ := kept_alloc2 hP hb; clear hb; obtain ⟨hK, hP, hK'⟩ := hS_) | (have hS_ := kept_step (Past.drew0 _) hb; clear hb; obtain ⟨hK, hP⟩ := hS_) | (have hS_ := kept_step (Past.refl _) hb; clear hb; obtain ⟨hK, hP⟩ := hS_))))
    go_ret
    exact ⟨ret_bool (by rw [H.out]), (by repeat (first | exact Below.refl _ _ | exact HB.out | exact fin4 HB hR6 (by omega) | exact fin2 HB ⟨hK1, hK2, hK3, hK4⟩ | refine fin ?_ hP | assumption | apply Below.drew | refine Below.alloc ?_ (by first | omega | (dsimp only; omega) | (simp only [sizes]; omega) | (simp; done)) _ | refine Below.setCell ?_ (by first | omega | (dsimp only; omega) | (simp only [sizes]; omega) | (simp; done)) _))⟩
set_option maxHeartbeats 400000 in
theorem l16Ok_any (st al oc : Int) (w : World) :
    Calls Try.prog 31 #[.agg #[.int .i64 st, .int .i64 al, .int .i64 oc]] w fun e w' => e = .returned (.bool (okP st al oc)) ∧ Below w.heap.size w w' := by
  rcases okP_cases st al oc with ⟨h1, H⟩ | ⟨h1, h2, H⟩ | ⟨h1, h2, h3, H⟩ | ⟨h1, h2, h3, b1, b2, b3, b4, b5, b6, H⟩
  all_goals
    go_enter Try.func31, Try.ntmps31
    go_wp2_with (first | (go_at_call 41; refine (l00In_any _ _ _ _).mono ?_; rintro e w1 ⟨rfl, rfl⟩) | (go_at_call 33; refine (l16Key_any _ _ _ (by omega) (by omega) (by omega) (by omega) (by omega) (by omega) _).mono ?_; rintro e w1 ⟨rfl, hb⟩; (first | (have hS_ := kept_step hP hb; clear hb; obtain ⟨hK, hP⟩ := hS_) | (have hS_ := kept_alloc hP hb; clear hb; obtain ⟨hK, hP, hK'⟩ := hS_) | (have hS_ := kept_alloc2 hP hb; clear hb; obtain ⟨hK, hP, hK'⟩ := hS_) | (have hS_ := kept_step (Past.drew0 _) hb; clear hb; obtain ⟨hK, hP⟩ := hS_) | (have hS_ := kept_step (Past.refl _) hb; clear hb; obtain ⟨hK, hP⟩ := hS_))))
    go_ret
    exact ⟨ret_bool (by rw [H.out]), (by repeat (first | exact Below.refl _ _ | exact HB.out | exact fin4 HB hR6 (by omega) | exact fin2 HB ⟨hK1, hK2, hK3, hK4⟩ | refine fin ?_ hP | assumption | apply Below.drew | refine Below.alloc ?_ (by first | omega | (dsimp only; omega) | (simp only [sizes]; omega) | (simp; done)) _ | refine Below.setCell ?_ (by first | omega | (dsimp only; omega) | (simp only [sizes]; omega) | (simp; done)) _))⟩

theorem toPitch_any (st al oc : Int) (w : World) :
    Calls Try.prog 12 #[.agg #[.int .i64 st, .int .i64 al, .int .i64 oc]] w fun e w' => e = .returned (.agg #[.int .i64 st, .int .i64 al, .int .i64 oc]) ∧ Below w.heap.size w w' := by
  go_enter Try.func12, Try.ntmps12
  go_wp2
  exact bodyPost_ret (v := .agg #[.int .i64 st, .int .i64 al, .int .i64 oc]) (by simp [results, Try.results12, go_sem]) rfl ⟨rfl, (by repeat (first | exact Below.refl _ _ | exact HB.out | exact fin4 HB hR6 (by omega) | exact fin2 HB ⟨hK1, hK2, hK3, hK4⟩ | refine fin ?_ hP | assumption | apply Below.drew | refine Below.alloc ?_ (by first | omega | (dsimp only; omega) | (simp only [sizes]; omega) | (simp; done)) _ | refine Below.setCell ?_ (by first | omega | (dsimp only; omega) | (simp only [sizes]; omega) | (simp; done)) _))⟩
set_option maxHeartbeats 400000 in
theorem sValidPitch_any (st al oc : Int) (w : World) :
    Calls Try.prog 11 #[.agg #[.int .i64 st, .int .i64 al, .int .i64 oc]] w fun e w' => e = .returned (.bool (okP st al oc)) ∧ Below w.heap.size w w' := by
  go_enter Try.func11, Try.ntmps11
  go_wp2_with (go_at_call 31; refine (l16Ok_any _ _ _ _).mono ?_; rintro e w1 ⟨rfl, hb⟩; (first | (have hS_ := kept_step hP hb; clear hb; obtain ⟨hK, hP⟩ := hS_) | (have hS_ := kept_alloc hP hb; clear hb; obtain ⟨hK, hP, hK'⟩ := hS_) | (have hS_ := kept_alloc2 hP hb; clear hb; obtain ⟨hK, hP, hK'⟩ := hS_) | (have hS_ := kept_step (Past.drew0 _) hb; clear hb; obtain ⟨hK, hP⟩ := hS_) | (have hS_ := kept_step (Past.refl _) hb; clear hb; obtain ⟨hK, hP⟩ := hS_)))
  go_ret
  exact ⟨rfl, (by repeat (first | exact Below.refl _ _ | exact HB.out | exact fin4 HB hR6 (by omega) | exact fin2 HB ⟨hK1, hK2, hK3, hK4⟩ | refine fin ?_ hP | assumption | apply Below.drew | refine Below.alloc ?_ (by first | omega | (dsimp only; omega) | (simp only [sizes]; omega) | (simp; done)) _ | refine Below.setCell ?_ (by first | omega | (dsimp only; omega) | (simp only [sizes]; omega) | (simp; done)) _))⟩
theorem iValidPitch_any (st al oc : Int) (w : World) :
    Calls Try.prog 13 #[.agg #[.int .i64 st, .int .i64 al, .int .i64 oc]] w fun e w' => e = .returned (.bool (okP st al oc)) ∧ Below w.heap.size w w' := by
  go_enter Try.func13, Try.ntmps13
  go_wp2_with (go_at_call 32; refine (isPitch_any _ _ _ _).mono ?_; rintro e w1 ⟨rfl, hb⟩; (first | (have hS_ := kept_step hP hb; clear hb; obtain ⟨hK, hP⟩ := hS_) | (have hS_ := kept_alloc hP hb; clear hb; obtain ⟨hK, hP, hK'⟩ := hS_) | (have hS_ := kept_alloc2 hP hb; clear hb; obtain ⟨hK, hP, hK'⟩ := hS_) | (have hS_ := kept_step (Past.drew0 _) hb; clear hb; obtain ⟨hK, hP⟩ := hS_) | (have hS_ := kept_step (Past.refl _) hb; clear hb; obtain ⟨hK, hP⟩ := hS_)))
  go_ret
  exact ⟨rfl, (by repeat (first | exact Below.refl _ _ | exact HB.out | exact fin4 HB hR6 (by omega) | exact fin2 HB ⟨hK1, hK2, hK3, hK4⟩ | refine fin ?_ hP | assumption | apply Below.drew | refine Below.alloc ?_ (by first | omega | (dsimp only; omega) | (simp only [sizes]; omega) | (simp; done)) _ | refine Below.setCell ?_ (by first | omega | (dsimp only; omega) | (simp only [sizes]; omega) | (simp; done)) _))⟩
theorem lawValidPitch (st al oc : Int) (w : World) :
    Calls Try.prog 3 #[.agg #[.int .i64 st, .int .i64 al, .int .i64 oc]] w fun e w' => e = .returned (.bool true) ∧ Below w.heap.size w w' := by
  go_enter Try.func3, Try.ntmps3
  go_wp2_with (first | (go_at_call 12; refine (toPitch_any _ _ _ _).mono ?_; rintro e w1 ⟨rfl, hb⟩; (first | (have hS_ := kept_step hP hb; clear hb; obtain ⟨hK, hP⟩ := hS_) | (have hS_ := kept_alloc hP hb; clear hb; obtain ⟨hK, hP, hK'⟩ := hS_) | (have hS_ := kept_alloc2 hP hb; clear hb; obtain ⟨hK, hP, hK'⟩ := hS_) | (have hS_ := kept_step (Past.drew0 _) hb; clear hb; obtain ⟨hK, hP⟩ := hS_) | (have hS_ := kept_step (Past.refl _) hb; clear hb; obtain ⟨hK, hP⟩ := hS_))) | (go_at_call 11; refine (sValidPitch_any _ _ _ _).mono ?_; rintro e w1 ⟨rfl, hb⟩; (first | (have hS_ := kept_step hP hb; clear hb; obtain ⟨hK, hP⟩ := hS_) | (have hS_ := kept_alloc hP hb; clear hb; obtain ⟨hK, hP, hK'⟩ := hS_) | (have hS_ := kept_alloc2 hP hb; clear hb; obtain ⟨hK, hP, hK'⟩ := hS_) | (have hS_ := kept_step (Past.drew0 _) hb; clear hb; obtain ⟨hK, hP⟩ := hS_) | (have hS_ := kept_step (Past.refl _) hb; clear hb; obtain ⟨hK, hP⟩ := hS_))) | (go_at_call 13; refine (iValidPitch_any _ _ _ _).mono ?_; rintro e w1 ⟨rfl, hb⟩; (first | (have hS_ := kept_step hP hb; clear hb; obtain ⟨hK, hP⟩ := hS_) | (have hS_ := kept_alloc hP hb; clear hb; obtain ⟨hK, hP, hK'⟩ := hS_) | (have hS_ := kept_alloc2 hP hb; clear hb; obtain ⟨hK, hP, hK'⟩ := hS_) | (have hS_ := kept_step (Past.drew0 _) hb; clear hb; obtain ⟨hK, hP⟩ := hS_) | (have hS_ := kept_step (Past.refl _) hb; clear hb; obtain ⟨hK, hP⟩ := hS_))))
  go_ret
  exact ⟨rfl, (by repeat (first | exact Below.refl _ _ | exact HB.out | exact fin4 HB hR6 (by omega) | exact fin2 HB ⟨hK1, hK2, hK3, hK4⟩ | refine fin ?_ hP | assumption | apply Below.drew | refine Below.alloc ?_ (by first | omega | (dsimp only; omega) | (simp only [sizes]; omega) | (simp; done)) _ | refine Below.setCell ?_ (by first | omega | (dsimp only; omega) | (simp only [sizes]; omega) | (simp; done)) _))⟩
end Go.Proofs.Ytniaandjfafdkaa
