/- Contracts of the exported functions on pitches and intervals, program and reference. Conditions: as each says. -/
import Derived.Test.YtniaandjfafdkaaPit3
namespace Go.Proofs.Ytniaandjfafdkaa
open Go.RowKit

theorem okP_bd {st al oc : Int} (h : okP st al oc = true) : 0 ≤ st ∧ st ≤ 6 ∧ -2 ≤ al ∧ al ≤ 2 ∧ -1 ≤ oc ∧ oc ≤ 9 ∧ 0 ≤ keyF st al oc ∧ keyF st al oc ≤ 127 := by
  have := (okP_iff st al oc).1 h; omega
theorem okI_iff (a b : Int) : okI a b = true ↔ (-28 ≤ a ∧ a ≤ 28) ∧ (-100 ≤ b ∧ b ≤ 100) ∧ -3 ≤ overF a b ∧ overF a b ≤ 3 := by
  simp [okI, inB_iff]
theorem okI_bd {a b : Int} (h : okI a b = true) : -28 ≤ a ∧ a ≤ 28 ∧ -100 ≤ b ∧ b ≤ 100 := by
  have := (okI_iff a b).1 h; omega

def keyOr (st al oc : Int) : Int := if okP st al oc = true then keyF st al oc else -1
def fifOr (st al oc : Int) : Int × Int := if okP st al oc = true then (fifF st al, 0) else (0, 1)


set_option maxHeartbeats 400000 in
theorem iKeyOfPitch_any (st al oc : Int) (w : World) :
    Calls Try.prog 15 #[.agg #[.int .i64 st, .int .i64 al, .int .i64 oc]] w fun e w' => e = .returned (.int .i64 (keyOr st al oc)) ∧ Below w.heap.size w w' := by
  by_cases h : okP st al oc = true
  · have H : Hid (keyOr st al oc = keyF st al oc) := hidden (by simp [keyOr, h])
    have hq := okP_bd h; have hq1 := hq.1; have hq2 := hq.2.1; have hq3 := hq.2.2.1; have hq4 := hq.2.2.2.1; have hq5 := hq.2.2.2.2.1; have hq6 := hq.2.2.2.2.2.1; have hq7 := hq.2.2.2.2.2.2.1; have hq8 := hq.2.2.2.2.2.2.2; clear hq
    go_enter Try.func15, Try.ntmps15
    go_wp2_with (first | (go_at_call 32; refine (isPitch_any _ _ _ _).mono ?_; rintro e w1 ⟨rfl, hb⟩; (first | (have hS_ := kept_step hP hb; clear hb; obtain ⟨hK, hP⟩ := hS_) | (have hS_ := kept_alloc hP hb; clear hb; obtain ⟨hK, hP, hK'⟩ := hS_) | (have hS_ := kept_alloc2 hP hb; clear hb; obtain ⟨hK, hP, hK'⟩ := hS_) | (have hS_ := kept_step (Past.drew0 _) hb; clear hb; obtain ⟨hK, hP⟩ := hS_) | (have hS_ := kept_step (Past.refl _) hb; clear hb; obtain ⟨hK, hP⟩ := hS_))) | (go_at_call 34; refine (keyOf_any _ _ _ (by omega) (by omega) (by omega) (by omega) (by omega) (by omega) _).mono ?_; rintro e w1 ⟨rfl, hb⟩; (first | (have hS_ := kept_step hP hb; clear hb; obtain ⟨hK, hP⟩ := hS_) | (have hS_ := kept_alloc hP hb; clear hb; obtain ⟨hK, hP, hK'⟩ := hS_) | (have hS_ := kept_alloc2 hP hb; clear hb; obtain ⟨hK, hP, hK'⟩ := hS_) | (have hS_ := kept_step (Past.drew0 _) hb; clear hb; obtain ⟨hK, hP⟩ := hS_) | (have hS_ := kept_step (Past.refl _) hb; clear hb; obtain ⟨hK, hP⟩ := hS_))))
    go_ret
    exact ⟨ret_int H.out.symm, (by repeat (first | exact Below.refl _ _ | exact HB.out | exact fin4 HB hR6 (by omega) | exact fin2 HB ⟨hK1, hK2, hK3, hK4⟩ | refine fin ?_ hP | assumption | apply Below.drew | refine Below.alloc ?_ (by first | omega | (dsimp only; omega) | (simp only [sizes]; omega) | (simp; done)) _ | refine Below.setCell ?_ (by first | omega | (dsimp only; omega) | (simp only [sizes]; omega) | (simp; done)) _))⟩
  · have H : Hid (keyOr st al oc = -1) := hidden (by simp [keyOr, h])
    have h' : okP st al oc = false := by simpa using h
    clear h
    go_enter Try.func15, Try.ntmps15
    go_wp2_with (go_at_call 32; refine (isPitch_any _ _ _ _).mono ?_; rintro e w1 ⟨rfl, hb⟩; (first | (have hS_ := kept_step hP hb; clear hb; obtain ⟨hK, hP⟩ := hS_) | (have hS_ := kept_alloc hP hb; clear hb; obtain ⟨hK, hP, hK'⟩ := hS_) | (have hS_ := kept_alloc2 hP hb; clear hb; obtain ⟨hK, hP, hK'⟩ := hS_) | (have hS_ := kept_step (Past.drew0 _) hb; clear hb; obtain ⟨hK, hP⟩ := hS_) | (have hS_ := kept_step (Past.refl _) hb; clear hb; obtain ⟨hK, hP⟩ := hS_)))
    go_ret
    exact ⟨ret_int H.out.symm, (by repeat (first | exact Below.refl _ _ | exact HB.out | exact fin4 HB hR6 (by omega) | exact fin2 HB ⟨hK1, hK2, hK3, hK4⟩ | refine fin ?_ hP | assumption | apply Below.drew | refine Below.alloc ?_ (by first | omega | (dsimp only; omega) | (simp only [sizes]; omega) | (simp; done)) _ | refine Below.setCell ?_ (by first | omega | (dsimp only; omega) | (simp only [sizes]; omega) | (simp; done)) _))⟩
set_option maxHeartbeats 400000 in
theorem sKeyOfPitch_any (st al oc : Int) (w : World) :
    Calls Try.prog 14 #[.agg #[.int .i64 st, .int .i64 al, .int .i64 oc]] w fun e w' => e = .returned (.int .i64 (keyOr st al oc)) ∧ Below w.heap.size w w' := by
  by_cases h : okP st al oc = true
  · have H : Hid (keyOr st al oc = keyF st al oc) := hidden (by simp [keyOr, h])
    have hq := okP_bd h; have hq1 := hq.1; have hq2 := hq.2.1; have hq3 := hq.2.2.1; have hq4 := hq.2.2.2.1; have hq5 := hq.2.2.2.2.1; have hq6 := hq.2.2.2.2.2.1; have hq7 := hq.2.2.2.2.2.2.1; have hq8 := hq.2.2.2.2.2.2.2; clear hq
    go_enter Try.func14, Try.ntmps14
    go_wp2_with (first | (go_at_call 31; refine (l16Ok_any _ _ _ _).mono ?_; rintro e w1 ⟨rfl, hb⟩; (first | (have hS_ := kept_step hP hb; clear hb; obtain ⟨hK, hP⟩ := hS_) | (have hS_ := kept_alloc hP hb; clear hb; obtain ⟨hK, hP, hK'⟩ := hS_) | (have hS_ := kept_alloc2 hP hb; clear hb; obtain ⟨hK, hP, hK'⟩ := hS_) | (have hS_ := kept_step (Past.drew0 _) hb; clear hb; obtain ⟨hK, hP⟩ := hS_) | (have hS_ := kept_step (Past.refl _) hb; clear hb; obtain ⟨hK, hP⟩ := hS_))) | (go_at_call 33; refine (l16Key_any _ _ _ (by omega) (by omega) (by omega) (by omega) (by omega) (by omega) _).mono ?_; rintro e w1 ⟨rfl, hb⟩; (first | (have hS_ := kept_step hP hb; clear hb; obtain ⟨hK, hP⟩ := hS_) | (have hS_ := kept_alloc hP hb; clear hb; obtain ⟨hK, hP, hK'⟩ := hS_) | (have hS_ := kept_alloc2 hP hb; clear hb; obtain ⟨hK, hP, hK'⟩ := hS_) | (have hS_ := kept_step (Past.drew0 _) hb; clear hb; obtain ⟨hK, hP⟩ := hS_) | (have hS_ := kept_step (Past.refl _) hb; clear hb; obtain ⟨hK, hP⟩ := hS_))))
    go_ret
    exact ⟨ret_int H.out.symm, (by repeat (first | exact Below.refl _ _ | exact HB.out | exact fin4 HB hR6 (by omega) | exact fin2 HB ⟨hK1, hK2, hK3, hK4⟩ | refine fin ?_ hP | assumption | apply Below.drew | refine Below.alloc ?_ (by first | omega | (dsimp only; omega) | (simp only [sizes]; omega) | (simp; done)) _ | refine Below.setCell ?_ (by first | omega | (dsimp only; omega) | (simp only [sizes]; omega) | (simp; done)) _))⟩
  · have H : Hid (keyOr st al oc = -1) := hidden (by simp [keyOr, h])
    have h' : okP st al oc = false := by simpa using h
    clear h
    go_enter Try.func14, Try.ntmps14
    go_wp2_with (go_at_call 31; refine (l16Ok_any _ _ _ _).mono ?_; rintro e w1 ⟨rfl, hb⟩; (first | (have hS_ := kept_step hP hb; clear hb; obtain ⟨hK, hP⟩ := hS_) | (have hS_ := kept_alloc hP hb; clear hb; obtain ⟨hK, hP, hK'⟩ := hS_) | (have hS_ := kept_alloc2 hP hb; clear hb; obtain ⟨hK, hP, hK'⟩ := hS_) | (have hS_ := kept_step (Past.drew0 _) hb; clear hb; obtain ⟨hK, hP⟩ := hS_) | (have hS_ := kept_step (Past.refl _) hb; clear hb; obtain ⟨hK, hP⟩ := hS_)))
    go_ret
    exact ⟨ret_int H.out.symm, (by repeat (first | exact Below.refl _ _ | exact HB.out | exact fin4 HB hR6 (by omega) | exact fin2 HB ⟨hK1, hK2, hK3, hK4⟩ | refine fin ?_ hP | assumption | apply Below.drew | refine Below.alloc ?_ (by first | omega | (dsimp only; omega) | (simp only [sizes]; omega) | (simp; done)) _ | refine Below.setCell ?_ (by first | omega | (dsimp only; omega) | (simp only [sizes]; omega) | (simp; done)) _))⟩
set_option maxHeartbeats 400000 in
theorem sValidInterval_any (a b : Int) (w : World) :
    Calls Try.prog 16 #[.agg #[.int .i64 a, .int .i64 b]] w fun e w' => e = .returned (.bool (okI a b)) ∧ Below w.heap.size w w' := by
  go_enter Try.func16, Try.ntmps16
  go_wp2_with (go_at_call 35; refine (l16Interval_any _ _ _).mono ?_; rintro e w1 ⟨rfl, hb⟩; (first | (have hS_ := kept_step hP hb; clear hb; obtain ⟨hK, hP⟩ := hS_) | (have hS_ := kept_alloc hP hb; clear hb; obtain ⟨hK, hP, hK'⟩ := hS_) | (have hS_ := kept_alloc2 hP hb; clear hb; obtain ⟨hK, hP, hK'⟩ := hS_) | (have hS_ := kept_step (Past.drew0 _) hb; clear hb; obtain ⟨hK, hP⟩ := hS_) | (have hS_ := kept_step (Past.refl _) hb; clear hb; obtain ⟨hK, hP⟩ := hS_)))
  go_ret
  exact ⟨rfl, (by repeat (first | exact Below.refl _ _ | exact HB.out | exact fin4 HB hR6 (by omega) | exact fin2 HB ⟨hK1, hK2, hK3, hK4⟩ | refine fin ?_ hP | assumption | apply Below.drew | refine Below.alloc ?_ (by first | omega | (dsimp only; omega) | (simp only [sizes]; omega) | (simp; done)) _ | refine Below.setCell ?_ (by first | omega | (dsimp only; omega) | (simp only [sizes]; omega) | (simp; done)) _))⟩
theorem iValidInterval_any (a b : Int) (w : World) :
    Calls Try.prog 18 #[.agg #[.int .i64 a, .int .i64 b]] w fun e w' => e = .returned (.bool (okI a b)) ∧ Below w.heap.size w w' := by
  go_enter Try.func18, Try.ntmps18
  go_wp2_with (go_at_call 36; refine (isInterval_any _ _ _).mono ?_; rintro e w1 ⟨rfl, hb⟩; (first | (have hS_ := kept_step hP hb; clear hb; obtain ⟨hK, hP⟩ := hS_) | (have hS_ := kept_alloc hP hb; clear hb; obtain ⟨hK, hP, hK'⟩ := hS_) | (have hS_ := kept_alloc2 hP hb; clear hb; obtain ⟨hK, hP, hK'⟩ := hS_) | (have hS_ := kept_step (Past.drew0 _) hb; clear hb; obtain ⟨hK, hP⟩ := hS_) | (have hS_ := kept_step (Past.refl _) hb; clear hb; obtain ⟨hK, hP⟩ := hS_)))
  go_ret
  exact ⟨rfl, (by repeat (first | exact Below.refl _ _ | exact HB.out | exact fin4 HB hR6 (by omega) | exact fin2 HB ⟨hK1, hK2, hK3, hK4⟩ | refine fin ?_ hP | assumption | apply Below.drew | refine Below.alloc ?_ (by first | omega | (dsimp only; omega) | (simp only [sizes]; omega) | (simp; done)) _ | refine Below.setCell ?_ (by first | omega | (dsimp only; omega) | (simp only [sizes]; omega) | (simp; done)) _))⟩
set_option maxHeartbeats 400000 in
theorem iFifthsOf_any (st al oc r1 r2 : Int) (hr : Hid (fifOr st al oc = (r1, r2))) (w : World) :
    Calls Try.prog 20 #[.agg #[.int .i64 st, .int .i64 al, .int .i64 oc]] w fun e w' => e = .returned (.tuple #[.int .i64 r1, .int .i64 r2]) ∧ Below w.heap.size w w' := by
  have hr := hr.out
  unfold fifOr at hr
  by_cases h : okP st al oc = true
  · rw [if_pos h] at hr
    obtain ⟨rfl, rfl⟩ := Prod.mk.inj hr
    clear hr
    have hq := okP_bd h; have hq1 := hq.1; have hq2 := hq.2.1; have hq3 := hq.2.2.1; have hq4 := hq.2.2.2.1; have hq5 := hq.2.2.2.2.1; have hq6 := hq.2.2.2.2.2.1; have hq7 := hq.2.2.2.2.2.2.1; have hq8 := hq.2.2.2.2.2.2.2; clear hq
    go_enter Try.func20, Try.ntmps20
    go_wp2_with (first | (go_at_call 32; refine (isPitch_any _ _ _ _).mono ?_; rintro e w1 ⟨rfl, hb⟩; (first | (have hS_ := kept_step hP hb; clear hb; obtain ⟨hK, hP⟩ := hS_) | (have hS_ := kept_alloc hP hb; clear hb; obtain ⟨hK, hP, hK'⟩ := hS_) | (have hS_ := kept_alloc2 hP hb; clear hb; obtain ⟨hK, hP, hK'⟩ := hS_) | (have hS_ := kept_step (Past.drew0 _) hb; clear hb; obtain ⟨hK, hP⟩ := hS_) | (have hS_ := kept_step (Past.refl _) hb; clear hb; obtain ⟨hK, hP⟩ := hS_))) | (go_at_call 38; refine (fifths_any _ _ _ (by omega) (by omega) (by omega) (by omega) _).mono ?_; rintro e w1 ⟨rfl, hb⟩; (first | (have hS_ := kept_step hP hb; clear hb; obtain ⟨hK, hP⟩ := hS_) | (have hS_ := kept_alloc hP hb; clear hb; obtain ⟨hK, hP, hK'⟩ := hS_) | (have hS_ := kept_alloc2 hP hb; clear hb; obtain ⟨hK, hP, hK'⟩ := hS_) | (have hS_ := kept_step (Past.drew0 _) hb; clear hb; obtain ⟨hK, hP⟩ := hS_) | (have hS_ := kept_step (Past.refl _) hb; clear hb; obtain ⟨hK, hP⟩ := hS_))))
    go_ret2
    exact ⟨rfl, (by repeat (first | exact Below.refl _ _ | exact HB.out | exact fin4 HB hR6 (by omega) | exact fin2 HB ⟨hK1, hK2, hK3, hK4⟩ | refine fin ?_ hP | assumption | apply Below.drew | refine Below.alloc ?_ (by first | omega | (dsimp only; omega) | (simp only [sizes]; omega) | (simp; done)) _ | refine Below.setCell ?_ (by first | omega | (dsimp only; omega) | (simp only [sizes]; omega) | (simp; done)) _))⟩
  · rw [if_neg h] at hr
    obtain ⟨rfl, rfl⟩ := Prod.mk.inj hr
    have h' : okP st al oc = false := by simpa using h
    clear h hr
    go_enter Try.func20, Try.ntmps20
    go_wp2_with (go_at_call 32; refine (isPitch_any _ _ _ _).mono ?_; rintro e w1 ⟨rfl, hb⟩; (first | (have hS_ := kept_step hP hb; clear hb; obtain ⟨hK, hP⟩ := hS_) | (have hS_ := kept_alloc hP hb; clear hb; obtain ⟨hK, hP, hK'⟩ := hS_) | (have hS_ := kept_alloc2 hP hb; clear hb; obtain ⟨hK, hP, hK'⟩ := hS_) | (have hS_ := kept_step (Past.drew0 _) hb; clear hb; obtain ⟨hK, hP⟩ := hS_) | (have hS_ := kept_step (Past.refl _) hb; clear hb; obtain ⟨hK, hP⟩ := hS_)))
    go_ret2
    exact ⟨rfl, (by repeat (first | exact Below.refl _ _ | exact HB.out | exact fin4 HB hR6 (by omega) | exact fin2 HB ⟨hK1, hK2, hK3, hK4⟩ | refine fin ?_ hP | assumption | apply Below.drew | refine Below.alloc ?_ (by first | omega | (dsimp only; omega) | (simp only [sizes]; omega) | (simp; done)) _ | refine Below.setCell ?_ (by first | omega | (dsimp only; omega) | (simp only [sizes]; omega) | (simp; done)) _))⟩
set_option maxHeartbeats 400000 in
theorem sFifthsOf_any (st al oc r1 r2 : Int) (hr : Hid (fifOr st al oc = (r1, r2))) (w : World) :
    Calls Try.prog 19 #[.agg #[.int .i64 st, .int .i64 al, .int .i64 oc]] w fun e w' => e = .returned (.tuple #[.int .i64 r1, .int .i64 r2]) ∧ Below w.heap.size w w' := by
  have hr := hr.out
  unfold fifOr at hr
  by_cases h : okP st al oc = true
  · rw [if_pos h] at hr
    obtain ⟨rfl, rfl⟩ := Prod.mk.inj hr
    clear hr
    have hq := okP_bd h; have hq1 := hq.1; have hq2 := hq.2.1; have hq3 := hq.2.2.1; have hq4 := hq.2.2.2.1; have hq5 := hq.2.2.2.2.1; have hq6 := hq.2.2.2.2.2.1; have hq7 := hq.2.2.2.2.2.2.1; have hq8 := hq.2.2.2.2.2.2.2; clear hq
    go_enter Try.func19, Try.ntmps19
    go_wp2_with (first | (go_at_call 31; refine (l16Ok_any _ _ _ _).mono ?_; rintro e w1 ⟨rfl, hb⟩; (first | (have hS_ := kept_step hP hb; clear hb; obtain ⟨hK, hP⟩ := hS_) | (have hS_ := kept_alloc hP hb; clear hb; obtain ⟨hK, hP, hK'⟩ := hS_) | (have hS_ := kept_alloc2 hP hb; clear hb; obtain ⟨hK, hP, hK'⟩ := hS_) | (have hS_ := kept_step (Past.drew0 _) hb; clear hb; obtain ⟨hK, hP⟩ := hS_) | (have hS_ := kept_step (Past.refl _) hb; clear hb; obtain ⟨hK, hP⟩ := hS_))) | (go_at_call 37; refine (l16Fifths_any _ _ _ (by omega) (by omega) (by omega) (by omega) _).mono ?_; rintro e w1 ⟨rfl, hb⟩; (first | (have hS_ := kept_step hP hb; clear hb; obtain ⟨hK, hP⟩ := hS_) | (have hS_ := kept_alloc hP hb; clear hb; obtain ⟨hK, hP, hK'⟩ := hS_) | (have hS_ := kept_alloc2 hP hb; clear hb; obtain ⟨hK, hP, hK'⟩ := hS_) | (have hS_ := kept_step (Past.drew0 _) hb; clear hb; obtain ⟨hK, hP⟩ := hS_) | (have hS_ := kept_step (Past.refl _) hb; clear hb; obtain ⟨hK, hP⟩ := hS_))))
    go_ret2
    exact ⟨rfl, (by repeat (first | exact Below.refl _ _ | exact HB.out | exact fin4 HB hR6 (by omega) | exact fin2 HB ⟨hK1, hK2, hK3, hK4⟩ | refine fin ?_ hP | assumption | apply Below.drew | refine Below.alloc ?_ (by first | omega | (dsimp only; omega) | (simp only [sizes]; omega) | (simp; done)) _ | refine Below.setCell ?_ (by first | omega | (dsimp only; omega) | (simp only [sizes]; omega) | (simp; done)) _))⟩
  · rw [if_neg h] at hr
    obtain ⟨rfl, rfl⟩ := Prod.mk.inj hr
    have h' : okP st al oc = false := by simpa using h
    clear h hr
    go_enter Try.func19, Try.ntmps19
    go_wp2_with (go_at_call 31; refine (l16Ok_any _ _ _ _).mono ?_; rintro e w1 ⟨rfl, hb⟩; (first | (have hS_ := kept_step hP hb; clear hb; obtain ⟨hK, hP⟩ := hS_) | (have hS_ := kept_alloc hP hb; clear hb; obtain ⟨hK, hP, hK'⟩ := hS_) | (have hS_ := kept_alloc2 hP hb; clear hb; obtain ⟨hK, hP, hK'⟩ := hS_) | (have hS_ := kept_step (Past.drew0 _) hb; clear hb; obtain ⟨hK, hP⟩ := hS_) | (have hS_ := kept_step (Past.refl _) hb; clear hb; obtain ⟨hK, hP⟩ := hS_)))
    go_ret2
    exact ⟨rfl, (by repeat (first | exact Below.refl _ _ | exact HB.out | exact fin4 HB hR6 (by omega) | exact fin2 HB ⟨hK1, hK2, hK3, hK4⟩ | refine fin ?_ hP | assumption | apply Below.drew | refine Below.alloc ?_ (by first | omega | (dsimp only; omega) | (simp only [sizes]; omega) | (simp; done)) _ | refine Below.setCell ?_ (by first | omega | (dsimp only; omega) | (simp only [sizes]; omega) | (simp; done)) _))⟩

def addI (a b c d : Int) : Int × Int × Int := if okI a b = true ∧ okI c d = true then (if okI (a + c) (b + d) = true then (a + c, b + d, 0) else (0, 0, 2)) else (0, 0, 1)
theorem addI_cases {a b c d r1 r2 r3 : Int} (hr : Hid (addI a b c d = (r1, r2, r3))) :
    (okI a b = false ∧ r1 = 0 ∧ r2 = 0 ∧ r3 = 1) ∨ (okI a b = true ∧ okI c d = false ∧ r1 = 0 ∧ r2 = 0 ∧ r3 = 1) ∨
    (okI a b = true ∧ okI c d = true ∧ okI (a + c) (b + d) = false ∧ r1 = 0 ∧ r2 = 0 ∧ r3 = 2) ∨ (okI a b = true ∧ okI c d = true ∧ okI (a + c) (b + d) = true ∧ r1 = a + c ∧ r2 = b + d ∧ r3 = 0) := by
  have hr := hr.out
  unfold addI at hr
  by_cases h1 : okI a b = true
  · by_cases h2 : okI c d = true
    · by_cases h3 : okI (a + c) (b + d) = true
      · simp [h1, h2, h3] at hr; simp [h1, h2, h3]; omega
      · simp [h1, h2, h3] at hr; simp [h1, h2, h3]; omega
    · simp [h1, h2] at hr; simp [h1, h2]; omega
  · simp [h1] at hr; simp [h1]; omega


set_option maxHeartbeats 800000 in
theorem iAddIntervals_any (a b c d r1 r2 r3 : Int) (hr : Hid (addI a b c d = (r1, r2, r3))) (w : World) :
    Calls Try.prog 22 #[.agg #[.int .i64 a, .int .i64 b], .agg #[.int .i64 c, .int .i64 d]] w fun e w' => e = .returned (.tuple #[.agg #[.int .i64 r1, .int .i64 r2], .int .i64 r3]) ∧ Below w.heap.size w w' := by
  rcases addI_cases hr with ⟨h1, rfl, rfl, rfl⟩ | ⟨h1, h2, rfl, rfl, rfl⟩ | ⟨h1, h2, h3, rfl, rfl, rfl⟩ | ⟨h1, h2, h3, rfl, rfl, rfl⟩
  · go_enter Try.func22, Try.ntmps22
    go_wp2_with (first | (go_at_call 36; refine (isInterval_any _ _ _).mono ?_; rintro e w1 ⟨rfl, hb⟩; (first | (have hS_ := kept_step hP hb; clear hb; obtain ⟨hK, hP⟩ := hS_) | (have hS_ := kept_alloc hP hb; clear hb; obtain ⟨hK, hP, hK'⟩ := hS_) | (have hS_ := kept_alloc2 hP hb; clear hb; obtain ⟨hK, hP, hK'⟩ := hS_) | (have hS_ := kept_step (Past.drew0 _) hb; clear hb; obtain ⟨hK, hP⟩ := hS_) | (have hS_ := kept_step (Past.refl _) hb; clear hb; obtain ⟨hK, hP⟩ := hS_))))
    exact bodyPost_ret (v := .tuple #[.agg #[.int .i64 0, .int .i64 0], .int .i64 1]) (by simp [results, Try.results22, go_sem, *]) rfl ⟨rfl, (by repeat (first | exact Below.refl _ _ | exact HB.out | exact fin4 HB hR6 (by omega) | exact fin2 HB ⟨hK1, hK2, hK3, hK4⟩ | refine fin ?_ hP | assumption | apply Below.drew | refine Below.alloc ?_ (by first | omega | (dsimp only; omega) | (simp only [sizes]; omega) | (simp; done)) _ | refine Below.setCell ?_ (by first | omega | (dsimp only; omega) | (simp only [sizes]; omega) | (simp; done)) _))⟩
  · go_enter Try.func22, Try.ntmps22
    go_wp2_with (first | (go_at_call 36; refine (isInterval_any _ _ _).mono ?_; rintro e w1 ⟨rfl, hb⟩; (first | (have hS_ := kept_step hP hb; clear hb; obtain ⟨hK, hP⟩ := hS_) | (have hS_ := kept_alloc hP hb; clear hb; obtain ⟨hK, hP, hK'⟩ := hS_) | (have hS_ := kept_alloc2 hP hb; clear hb; obtain ⟨hK, hP, hK'⟩ := hS_) | (have hS_ := kept_step (Past.drew0 _) hb; clear hb; obtain ⟨hK, hP⟩ := hS_) | (have hS_ := kept_step (Past.refl _) hb; clear hb; obtain ⟨hK, hP⟩ := hS_))))
    exact bodyPost_ret (v := .tuple #[.agg #[.int .i64 0, .int .i64 0], .int .i64 1]) (by simp [results, Try.results22, go_sem, *]) rfl ⟨rfl, (by repeat (first | exact Below.refl _ _ | exact HB.out | exact fin4 HB hR6 (by omega) | exact fin2 HB ⟨hK1, hK2, hK3, hK4⟩ | refine fin ?_ hP | assumption | apply Below.drew | refine Below.alloc ?_ (by first | omega | (dsimp only; omega) | (simp only [sizes]; omega) | (simp; done)) _ | refine Below.setCell ?_ (by first | omega | (dsimp only; omega) | (simp only [sizes]; omega) | (simp; done)) _))⟩
  · have hq := okI_bd h1; have hp := okI_bd h2; have hq1 := hq.1; have hq2 := hq.2.1; have hq3 := hq.2.2.1; have hq4 := hq.2.2.2; have hp1 := hp.1; have hp2 := hp.2.1; have hp3 := hp.2.2.1; have hp4 := hp.2.2.2; clear hq hp; have e1 : IntKind.i64.wrap (a + c) = a + c := wi64 _ (by omega); have e2 : IntKind.i64.wrap (b + d) = b + d := wi64 _ (by omega)
    go_enter Try.func22, Try.ntmps22
    go_wp2_with (first | (go_at_call 36; refine (isInterval_any _ _ _).mono ?_; rintro e w1 ⟨rfl, hb⟩; (first | (have hS_ := kept_step hP hb; clear hb; obtain ⟨hK, hP⟩ := hS_) | (have hS_ := kept_alloc hP hb; clear hb; obtain ⟨hK, hP, hK'⟩ := hS_) | (have hS_ := kept_alloc2 hP hb; clear hb; obtain ⟨hK, hP, hK'⟩ := hS_) | (have hS_ := kept_step (Past.drew0 _) hb; clear hb; obtain ⟨hK, hP⟩ := hS_) | (have hS_ := kept_step (Past.refl _) hb; clear hb; obtain ⟨hK, hP⟩ := hS_))) | (go_at_call 39; refine (told_no _ _ h3 _).mono ?_; rintro e w1 ⟨rfl, hb⟩; (first | (have hS_ := kept_step hP hb; clear hb; obtain ⟨hK, hP⟩ := hS_) | (have hS_ := kept_alloc hP hb; clear hb; obtain ⟨hK, hP, hK'⟩ := hS_) | (have hS_ := kept_alloc2 hP hb; clear hb; obtain ⟨hK, hP, hK'⟩ := hS_) | (have hS_ := kept_step (Past.drew0 _) hb; clear hb; obtain ⟨hK, hP⟩ := hS_) | (have hS_ := kept_step (Past.refl _) hb; clear hb; obtain ⟨hK, hP⟩ := hS_))))
    exact bodyPost_ret (v := .tuple #[.agg #[.int .i64 0, .int .i64 0], .int .i64 2]) (by simp [results, Try.results22, go_sem, *]) rfl ⟨rfl, (by repeat (first | exact Below.refl _ _ | exact HB.out | exact fin4 HB hR6 (by omega) | exact fin2 HB ⟨hK1, hK2, hK3, hK4⟩ | refine fin ?_ hP | assumption | apply Below.drew | refine Below.alloc ?_ (by first | omega | (dsimp only; omega) | (simp only [sizes]; omega) | (simp; done)) _ | refine Below.setCell ?_ (by first | omega | (dsimp only; omega) | (simp only [sizes]; omega) | (simp; done)) _))⟩
  · have hq := okI_bd h1; have hp := okI_bd h2; have hq1 := hq.1; have hq2 := hq.2.1; have hq3 := hq.2.2.1; have hq4 := hq.2.2.2; have hp1 := hp.1; have hp2 := hp.2.1; have hp3 := hp.2.2.1; have hp4 := hp.2.2.2; clear hq hp; have e1 : IntKind.i64.wrap (a + c) = a + c := wi64 _ (by omega); have e2 : IntKind.i64.wrap (b + d) = b + d := wi64 _ (by omega)
    go_enter Try.func22, Try.ntmps22
    go_wp2_with (first | (go_at_call 36; refine (isInterval_any _ _ _).mono ?_; rintro e w1 ⟨rfl, hb⟩; (first | (have hS_ := kept_step hP hb; clear hb; obtain ⟨hK, hP⟩ := hS_) | (have hS_ := kept_alloc hP hb; clear hb; obtain ⟨hK, hP, hK'⟩ := hS_) | (have hS_ := kept_alloc2 hP hb; clear hb; obtain ⟨hK, hP, hK'⟩ := hS_) | (have hS_ := kept_step (Past.drew0 _) hb; clear hb; obtain ⟨hK, hP⟩ := hS_) | (have hS_ := kept_step (Past.refl _) hb; clear hb; obtain ⟨hK, hP⟩ := hS_))) | (go_at_call 39; refine (told_yes _ _ h3 _).mono ?_; rintro e w1 ⟨rfl, hb⟩; (first | (have hS_ := kept_step hP hb; clear hb; obtain ⟨hK, hP⟩ := hS_) | (have hS_ := kept_alloc hP hb; clear hb; obtain ⟨hK, hP, hK'⟩ := hS_) | (have hS_ := kept_alloc2 hP hb; clear hb; obtain ⟨hK, hP, hK'⟩ := hS_) | (have hS_ := kept_step (Past.drew0 _) hb; clear hb; obtain ⟨hK, hP⟩ := hS_) | (have hS_ := kept_step (Past.refl _) hb; clear hb; obtain ⟨hK, hP⟩ := hS_))))
    exact bodyPost_ret (v := .tuple #[.agg #[.int .i64 (a + c), .int .i64 (b + d)], .int .i64 0]) (by simp [results, Try.results22, go_sem, *]) rfl ⟨rfl, (by repeat (first | exact Below.refl _ _ | exact HB.out | exact fin4 HB hR6 (by omega) | exact fin2 HB ⟨hK1, hK2, hK3, hK4⟩ | refine fin ?_ hP | assumption | apply Below.drew | refine Below.alloc ?_ (by first | omega | (dsimp only; omega) | (simp only [sizes]; omega) | (simp; done)) _ | refine Below.setCell ?_ (by first | omega | (dsimp only; omega) | (simp only [sizes]; omega) | (simp; done)) _))⟩
set_option maxHeartbeats 800000 in
theorem sAddIntervals_any (a b c d r1 r2 r3 : Int) (hr : Hid (addI a b c d = (r1, r2, r3))) (w : World) :
    Calls Try.prog 21 #[.agg #[.int .i64 a, .int .i64 b], .agg #[.int .i64 c, .int .i64 d]] w fun e w' => e = .returned (.tuple #[.agg #[.int .i64 r1, .int .i64 r2], .int .i64 r3]) ∧ Below w.heap.size w w' := by
  rcases addI_cases hr with ⟨h1, rfl, rfl, rfl⟩ | ⟨h1, h2, rfl, rfl, rfl⟩ | ⟨h1, h2, h3, rfl, rfl, rfl⟩ | ⟨h1, h2, h3, rfl, rfl, rfl⟩
  · go_enter Try.func21, Try.ntmps21
    go_wp2_with (first | (go_at_call 35; refine (l16Interval_any _ _ _).mono ?_; rintro e w1 ⟨rfl, hb⟩; (first | (have hS_ := kept_step hP hb; clear hb; obtain ⟨hK, hP⟩ := hS_) | (have hS_ := kept_alloc hP hb; clear hb; obtain ⟨hK, hP, hK'⟩ := hS_) | (have hS_ := kept_alloc2 hP hb; clear hb; obtain ⟨hK, hP, hK'⟩ := hS_) | (have hS_ := kept_step (Past.drew0 _) hb; clear hb; obtain ⟨hK, hP⟩ := hS_) | (have hS_ := kept_step (Past.refl _) hb; clear hb; obtain ⟨hK, hP⟩ := hS_))))
    exact bodyPost_ret (v := .tuple #[.agg #[.int .i64 0, .int .i64 0], .int .i64 1]) (by simp [results, Try.results21, go_sem, *]) rfl ⟨rfl, (by repeat (first | exact Below.refl _ _ | exact HB.out | exact fin4 HB hR6 (by omega) | exact fin2 HB ⟨hK1, hK2, hK3, hK4⟩ | refine fin ?_ hP | assumption | apply Below.drew | refine Below.alloc ?_ (by first | omega | (dsimp only; omega) | (simp only [sizes]; omega) | (simp; done)) _ | refine Below.setCell ?_ (by first | omega | (dsimp only; omega) | (simp only [sizes]; omega) | (simp; done)) _))⟩
  · go_enter Try.func21, Try.ntmps21
    go_wp2_with (first | (go_at_call 35; refine (l16Interval_any _ _ _).mono ?_; rintro e w1 ⟨rfl, hb⟩; (first | (have hS_ := kept_step hP hb; clear hb; obtain ⟨hK, hP⟩ := hS_) | (have hS_ := kept_alloc hP hb; clear hb; obtain ⟨hK, hP, hK'⟩ := hS_) | (have hS_ := kept_alloc2 hP hb; clear hb; obtain ⟨hK, hP, hK'⟩ := hS_) | (have hS_ := kept_step (Past.drew0 _) hb; clear hb; obtain ⟨hK, hP⟩ := hS_) | (have hS_ := kept_step (Past.refl _) hb; clear hb; obtain ⟨hK, hP⟩ := hS_))))
    exact bodyPost_ret (v := .tuple #[.agg #[.int .i64 0, .int .i64 0], .int .i64 1]) (by simp [results, Try.results21, go_sem, *]) rfl ⟨rfl, (by repeat (first | exact Below.refl _ _ | exact HB.out | exact fin4 HB hR6 (by omega) | exact fin2 HB ⟨hK1, hK2, hK3, hK4⟩ | refine fin ?_ hP | assumption | apply Below.drew | refine Below.alloc ?_ (by first | omega | (dsimp only; omega) | (simp only [sizes]; omega) | (simp; done)) _ | refine Below.setCell ?_ (by first | omega | (dsimp only; omega) | (simp only [sizes]; omega) | (simp; done)) _))⟩
  · have hq := okI_bd h1; have hp := okI_bd h2; have hq1 := hq.1; have hq2 := hq.2.1; have hq3 := hq.2.2.1; have hq4 := hq.2.2.2; have hp1 := hp.1; have hp2 := hp.2.1; have hp3 := hp.2.2.1; have hp4 := hp.2.2.2; clear hq hp; have e1 : IntKind.i64.wrap (a + c) = a + c := wi64 _ (by omega); have e2 : IntKind.i64.wrap (b + d) = b + d := wi64 _ (by omega)
    go_enter Try.func21, Try.ntmps21
    go_wp2_with (first | (go_at_call 35; refine (l16Interval_any _ _ _).mono ?_; rintro e w1 ⟨rfl, hb⟩; (first | (have hS_ := kept_step hP hb; clear hb; obtain ⟨hK, hP⟩ := hS_) | (have hS_ := kept_alloc hP hb; clear hb; obtain ⟨hK, hP, hK'⟩ := hS_) | (have hS_ := kept_alloc2 hP hb; clear hb; obtain ⟨hK, hP, hK'⟩ := hS_) | (have hS_ := kept_step (Past.drew0 _) hb; clear hb; obtain ⟨hK, hP⟩ := hS_) | (have hS_ := kept_step (Past.refl _) hb; clear hb; obtain ⟨hK, hP⟩ := hS_))))
    exact bodyPost_ret (v := .tuple #[.agg #[.int .i64 0, .int .i64 0], .int .i64 2]) (by simp [results, Try.results21, go_sem, *]) rfl ⟨rfl, (by repeat (first | exact Below.refl _ _ | exact HB.out | exact fin4 HB hR6 (by omega) | exact fin2 HB ⟨hK1, hK2, hK3, hK4⟩ | refine fin ?_ hP | assumption | apply Below.drew | refine Below.alloc ?_ (by first | omega | (dsimp only; omega) | (simp only [sizes]; omega) | (simp; done)) _ | refine Below.setCell ?_ (by first | omega | (dsimp only; omega) | (simp only [sizes]; omega) | (simp; done)) _))⟩
  · have hq := okI_bd h1; have hp := okI_bd h2; have hq1 := hq.1; have hq2 := hq.2.1; have hq3 := hq.2.2.1; have hq4 := hq.2.2.2; have hp1 := hp.1; have hp2 := hp.2.1; have hp3 := hp.2.2.1; have hp4 := hp.2.2.2; clear hq hp; have e1 : IntKind.i64.wrap (a + c) = a + c := wi64 _ (by omega); have e2 : IntKind.i64.wrap (b + d) = b + d := wi64 _ (by omega)
    go_enter Try.func21, Try.ntmps21
    go_wp2_with (first | (go_at_call 35; refine (l16Interval_any _ _ _).mono ?_; rintro e w1 ⟨rfl, hb⟩; (first | (have hS_ := kept_step hP hb; clear hb; obtain ⟨hK, hP⟩ := hS_) | (have hS_ := kept_alloc hP hb; clear hb; obtain ⟨hK, hP, hK'⟩ := hS_) | (have hS_ := kept_alloc2 hP hb; clear hb; obtain ⟨hK, hP, hK'⟩ := hS_) | (have hS_ := kept_step (Past.drew0 _) hb; clear hb; obtain ⟨hK, hP⟩ := hS_) | (have hS_ := kept_step (Past.refl _) hb; clear hb; obtain ⟨hK, hP⟩ := hS_))))
    exact bodyPost_ret (v := .tuple #[.agg #[.int .i64 (a + c), .int .i64 (b + d)], .int .i64 0]) (by simp [results, Try.results21, go_sem, *]) rfl ⟨rfl, (by repeat (first | exact Below.refl _ _ | exact HB.out | exact fin4 HB hR6 (by omega) | exact fin2 HB ⟨hK1, hK2, hK3, hK4⟩ | refine fin ?_ hP | assumption | apply Below.drew | refine Below.alloc ?_ (by first | omega | (dsimp only; omega) | (simp only [sizes]; omega) | (simp; done)) _ | refine Below.setCell ?_ (by first | omega | (dsimp only; omega) | (simp only [sizes]; omega) | (simp; done)) _))⟩
end Go.Proofs.Ytniaandjfafdkaa
