/- Contracts: beats, tempo maps, notes, scores drawn from bytes. Conditions: as each says. -/
import Derived.Test.YtkeckmdmmbeaiaaGreatDoorDr
set_option linter.unusedSimpArgs false
set_option linter.unusedVariables false
namespace Go.Proofs.YtkeckmdmmbeaiaaGreatDoor
open Go.RowKit Sx
set_option maxRecDepth 100000
set_option maxHeartbeats 1000000
theorem mkF_small {n d : Int} (hn : 0 ≤ n ∧ n ≤ 1000000000) (hd : 1 ≤ d ∧ d ≤ 1000000) :
    (mkF n d).2 = 0 ∧ 0 ≤ (mkF n d).1.1 ∧ okF (mkF n d).1.1 (mkF n d).1.2 = true ∧ ∃ g : Int, 1 ≤ g ∧ n = g * (mkF n d).1.1 ∧ d = g * (mkF n d).1.2 := by
  have g1 := gcd_pos (n := n) (d := d) (by omega)
  have b1 := div_bd (n.natAbs : Int) _ (by omega) g1
  have b2 := div_bd (d.natAbs : Int) _ (by omega) g1
  have hm := mkF_pos n d (by omega)
  have e1 : ((n.natAbs : Int)) = n := by omega
  have e2 : ((d.natAbs : Int)) = d := by omega
  have d1 : (Int.gcd n d : Int) ∣ n := Int.gcd_dvd_left ..
  have d2 : (Int.gcd n d : Int) ∣ d := Int.gcd_dvd_right ..
  have m1 := Int.mul_ediv_cancel' d1
  have m2 := Int.mul_ediv_cancel' d2
  rw [e1] at b1
  rw [e2] at b2
  rw [e1, e2, if_neg (by omega), show (decide (n < 0) != decide (d < 0)) = false by
    rw [decide_eq_false (by omega), decide_eq_false (by omega)]; rfl] at hm
  have hz : (mkF n d).2 = 0 := by rw [hm]
  refine ⟨hz, ?_, mkF_ok (by omega) hz, (Int.gcd n d : Int), g1, ?_, ?_⟩
  · rw [hm]; exact b1.1
  · rw [hm]; exact m1.symm
  · rw [hm]; exact m2.symm
def beatL : List Int := [1, 1, 2, 2, 3, 4, 4, 6, 8]
def beatS (s : Src) (most : Int) : (Int × Int) × Src :=
  ((mkF (pickS (amongS s beatL).2 (most * (amongS s beatL).1 + 1)).1 (amongS s beatL).1).1, (pickS (amongS s beatL).2 (most * (amongS s beatL).1 + 1)).2)
theorem beat_den {s : Src} {m : Int} (h : okS s m) : 1 ≤ (amongS s beatL).1 ∧ (amongS s beatL).1 ≤ 8 := by
  have := amongS_mem h beatL (by decide)
  generalize (amongS s beatL).1 = d at *
  simp only [beatL, List.mem_cons, List.not_mem_nil, or_false] at this
  omega
theorem beatS_ok {s : Src} {m : Int} (h : okS s m) (most : Int) : okS (beatS s most).2 (m + 4) := (pickS_ok (amongS_ok h beatL) _).mono (by omega)
theorem beatS_bd {s : Src} {m : Int} (h : okS s m) {most : Int} (hm : 0 ≤ most ∧ most ≤ 1000) :
    okF (beatS s most).1.1 (beatS s most).1.2 = true ∧ 0 ≤ (beatS s most).1.1 ∧ (beatS s most).1.1 ≤ most * (beatS s most).1.2 ∧ (beatS s most).1.2 ≤ 8 := by
  have hd := beat_den h
  have hq := amongS_ok h beatL
  have hp := pickS_bd hq (most * (amongS s beatL).1 + 1)
  show okF (mkF _ _).1.1 (mkF _ _).1.2 = true ∧ 0 ≤ (mkF _ _).1.1 ∧ (mkF _ _).1.1 ≤ most * (mkF _ _).1.2 ∧ (mkF _ _).1.2 ≤ 8
  generalize (pickS (amongS s beatL).2 (most * (amongS s beatL).1 + 1)).1 = n at *
  generalize (amongS s beatL).1 = d at *
  have h1 : 0 ≤ most * d := Int.mul_nonneg hm.1 (by omega)
  have h2 : most * d ≤ 1000 * d := Int.mul_le_mul_of_nonneg_right hm.2 (by omega)
  have hn := hp.2.1 (by omega)
  obtain ⟨z, p0, ho, g, hg, e1, e2⟩ := mkF_small (n := n) (d := d) ⟨hp.1, by omega⟩ ⟨by omega, by omega⟩
  have hob := okF_bd ho
  generalize (mkF n d).1.1 = a at *
  generalize (mkF n d).1.2 = b at *
  refine ⟨ho, p0, ?_, ?_⟩
  · have : g * a ≤ g * (most * b) := by rw [← e1, Int.mul_left_comm, ← e2]; omega
    exact Int.le_of_mul_le_mul_left this (by omega)
  · have : 1 * b ≤ g * b := Int.mul_le_mul_of_nonneg_right hg (by omega)
    omega
def ct_l02Beat : Ct := ctOfB tSrc [.v (.int .i64)] (fun ((code : List (Ty.int .u8).den), (a : Int), (sd : Int)) ((most : Int), _) => .p (okS (code, a, sd) 800000000 ∧ 0 ≤ most ∧ most ≤ 1000)) (fun ((code : List (Ty.int .u8).den), (a : Int), (sd : Int)) ((most : Int), _) => .agg (enc tFrac (beatS (code, a, sd) most).1)) (fun ((code : List (Ty.int .u8).den), (a : Int), (sd : Int)) ((most : Int), _) => (beatS (code, a, sd) most).2)
set_option maxHeartbeats 1000000 in
theorem sat_l02Beat : Sat Tryz.prog 56 ct_l02Beat := by
  refine sat_typedB (C := C_Dr) (L := noL) (wr := false) mixedOk Tryz.func56 C_Dr_ok (loops0 (by kernel_rfl)) (fun _ _ => by first | rfl | (simp [ownsOf, ownsOf.ownsL, enc, encV, encS])) fun bx x hp => ?_
  obtain ⟨(code : List (Ty.int .u8).den), (a : Int), (sd : Int)⟩ := bx
  obtain ⟨(most : Int), _⟩ := x
  replace hp : okS (code, a, sd) 800000000 ∧ 0 ≤ most ∧ most ≤ 1000 := hp
  have htree : exFuncB Tryz.prog C_Dr false noL Tryz.f56 (encA [.v (.int .i64)] (most, ())) ⟨tSrc, (code, a, sd)⟩ = .need (okS (code, a, sd) (900000000 : Int) ∧ (1 : Int) ≤ (↑[(1 : Int), (1 : Int), (2 : Int), (2 : Int), (3 : Int), (4 : Int), (4 : Int), (6 : Int), (8 : Int)].length : Int) ∧ (↑[(1 : Int), (1 : Int), (2 : Int), (2 : Int), (3 : Int), (4 : Int), (4 : Int), (6 : Int), (8 : Int)].length : Int) ≤ (1000000 : Int)) (.need (inK IntKind.i64 (most * (amongS (code, a, sd) [(1 : Int), (1 : Int), (2 : Int), (2 : Int), (3 : Int), (4 : Int), (4 : Int), (6 : Int), (8 : Int)]).fst)) (.need (inK IntKind.i64 (most * (amongS (code, a, sd) [(1 : Int), (1 : Int), (2 : Int), (2 : Int), (3 : Int), (4 : Int), (4 : Int), (6 : Int), (8 : Int)]).fst + (1 : Int))) (.need (okS ((amongS (code, a, sd) [(1 : Int), (1 : Int), (2 : Int), (2 : Int), (3 : Int), (4 : Int), (4 : Int), (6 : Int), (8 : Int)]).snd.fst, (amongS (code, a, sd) [(1 : Int), (1 : Int), (2 : Int), (2 : Int), (3 : Int), (4 : Int), (4 : Int), (6 : Int), (8 : Int)]).snd.snd.fst, (amongS (code, a, sd) [(1 : Int), (1 : Int), (2 : Int), (2 : Int), (3 : Int), (4 : Int), (4 : Int), (6 : Int), (8 : Int)]).snd.snd.snd) (900000000 : Int) ∧ most * (amongS (code, a, sd) [(1 : Int), (1 : Int), (2 : Int), (2 : Int), (3 : Int), (4 : Int), (4 : Int), (6 : Int), (8 : Int)]).fst + (1 : Int) ≤ (1000000 : Int)) (.need (((-9223372036854775808 : Int) ≤ (pickS ((amongS (code, a, sd) [(1 : Int), (1 : Int), (2 : Int), (2 : Int), (3 : Int), (4 : Int), (4 : Int), (6 : Int), (8 : Int)]).snd.fst, (amongS (code, a, sd) [(1 : Int), (1 : Int), (2 : Int), (2 : Int), (3 : Int), (4 : Int), (4 : Int), (6 : Int), (8 : Int)]).snd.snd.fst, (amongS (code, a, sd) [(1 : Int), (1 : Int), (2 : Int), (2 : Int), (3 : Int), (4 : Int), (4 : Int), (6 : Int), (8 : Int)]).snd.snd.snd) (most * (amongS (code, a, sd) [(1 : Int), (1 : Int), (2 : Int), (2 : Int), (3 : Int), (4 : Int), (4 : Int), (6 : Int), (8 : Int)]).fst + (1 : Int))).fst ∧ (pickS ((amongS (code, a, sd) [(1 : Int), (1 : Int), (2 : Int), (2 : Int), (3 : Int), (4 : Int), (4 : Int), (6 : Int), (8 : Int)]).snd.fst, (amongS (code, a, sd) [(1 : Int), (1 : Int), (2 : Int), (2 : Int), (3 : Int), (4 : Int), (4 : Int), (6 : Int), (8 : Int)]).snd.snd.fst, (amongS (code, a, sd) [(1 : Int), (1 : Int), (2 : Int), (2 : Int), (3 : Int), (4 : Int), (4 : Int), (6 : Int), (8 : Int)]).snd.snd.snd) (most * (amongS (code, a, sd) [(1 : Int), (1 : Int), (2 : Int), (2 : Int), (3 : Int), (4 : Int), (4 : Int), (6 : Int), (8 : Int)]).fst + (1 : Int))).fst ≤ (9223372036854775807 : Int)) ∧ (-9223372036854775808 : Int) ≤ (amongS (code, a, sd) [(1 : Int), (1 : Int), (2 : Int), (2 : Int), (3 : Int), (4 : Int), (4 : Int), (6 : Int), (8 : Int)]).fst ∧ (amongS (code, a, sd) [(1 : Int), (1 : Int), (2 : Int), (2 : Int), (3 : Int), (4 : Int), (4 : Int), (6 : Int), (8 : Int)]).fst ≤ (9223372036854775807 : Int)) (.leaf ([.agg [.int .i64 ((mkF (pickS ((amongS (code, a, sd) [(1 : Int), (1 : Int), (2 : Int), (2 : Int), (3 : Int), (4 : Int), (4 : Int), (6 : Int), (8 : Int)]).snd.fst, (amongS (code, a, sd) [(1 : Int), (1 : Int), (2 : Int), (2 : Int), (3 : Int), (4 : Int), (4 : Int), (6 : Int), (8 : Int)]).snd.snd.fst, (amongS (code, a, sd) [(1 : Int), (1 : Int), (2 : Int), (2 : Int), (3 : Int), (4 : Int), (4 : Int), (6 : Int), (8 : Int)]).snd.snd.snd) (most * (amongS (code, a, sd) [(1 : Int), (1 : Int), (2 : Int), (2 : Int), (3 : Int), (4 : Int), (4 : Int), (6 : Int), (8 : Int)]).fst + (1 : Int))).fst (amongS (code, a, sd) [(1 : Int), (1 : Int), (2 : Int), (2 : Int), (3 : Int), (4 : Int), (4 : Int), (6 : Int), (8 : Int)]).fst).fst.fst), .int .i64 ((mkF (pickS ((amongS (code, a, sd) [(1 : Int), (1 : Int), (2 : Int), (2 : Int), (3 : Int), (4 : Int), (4 : Int), (6 : Int), (8 : Int)]).snd.fst, (amongS (code, a, sd) [(1 : Int), (1 : Int), (2 : Int), (2 : Int), (3 : Int), (4 : Int), (4 : Int), (6 : Int), (8 : Int)]).snd.snd.fst, (amongS (code, a, sd) [(1 : Int), (1 : Int), (2 : Int), (2 : Int), (3 : Int), (4 : Int), (4 : Int), (6 : Int), (8 : Int)]).snd.snd.snd) (most * (amongS (code, a, sd) [(1 : Int), (1 : Int), (2 : Int), (2 : Int), (3 : Int), (4 : Int), (4 : Int), (6 : Int), (8 : Int)]).fst + (1 : Int))).fst (amongS (code, a, sd) [(1 : Int), (1 : Int), (2 : Int), (2 : Int), (3 : Int), (4 : Int), (4 : Int), (6 : Int), (8 : Int)]).fst).fst.snd)]], ⟨(Ty.int IntKind.u8).seq.pair ((Ty.int IntKind.i64).pair (Ty.int IntKind.u64)), ((pickS ((amongS (code, a, sd) [(1 : Int), (1 : Int), (2 : Int), (2 : Int), (3 : Int), (4 : Int), (4 : Int), (6 : Int), (8 : Int)]).snd.fst, (amongS (code, a, sd) [(1 : Int), (1 : Int), (2 : Int), (2 : Int), (3 : Int), (4 : Int), (4 : Int), (6 : Int), (8 : Int)]).snd.snd.fst, (amongS (code, a, sd) [(1 : Int), (1 : Int), (2 : Int), (2 : Int), (3 : Int), (4 : Int), (4 : Int), (6 : Int), (8 : Int)]).snd.snd.snd) (most * (amongS (code, a, sd) [(1 : Int), (1 : Int), (2 : Int), (2 : Int), (3 : Int), (4 : Int), (4 : Int), (6 : Int), (8 : Int)]).fst + (1 : Int))).snd.fst, (pickS ((amongS (code, a, sd) [(1 : Int), (1 : Int), (2 : Int), (2 : Int), (3 : Int), (4 : Int), (4 : Int), (6 : Int), (8 : Int)]).snd.fst, (amongS (code, a, sd) [(1 : Int), (1 : Int), (2 : Int), (2 : Int), (3 : Int), (4 : Int), (4 : Int), (6 : Int), (8 : Int)]).snd.snd.fst, (amongS (code, a, sd) [(1 : Int), (1 : Int), (2 : Int), (2 : Int), (3 : Int), (4 : Int), (4 : Int), (6 : Int), (8 : Int)]).snd.snd.snd) (most * (amongS (code, a, sd) [(1 : Int), (1 : Int), (2 : Int), (2 : Int), (3 : Int), (4 : Int), (4 : Int), (6 : Int), (8 : Int)]).fst + (1 : Int))).snd.snd.fst, (pickS ((amongS (code, a, sd) [(1 : Int), (1 : Int), (2 : Int), (2 : Int), (3 : Int), (4 : Int), (4 : Int), (6 : Int), (8 : Int)]).snd.fst, (amongS (code, a, sd) [(1 : Int), (1 : Int), (2 : Int), (2 : Int), (3 : Int), (4 : Int), (4 : Int), (6 : Int), (8 : Int)]).snd.snd.fst, (amongS (code, a, sd) [(1 : Int), (1 : Int), (2 : Int), (2 : Int), (3 : Int), (4 : Int), (4 : Int), (6 : Int), (8 : Int)]).snd.snd.snd) (most * (amongS (code, a, sd) [(1 : Int), (1 : Int), (2 : Int), (2 : Int), (3 : Int), (4 : Int), (4 : Int), (6 : Int), (8 : Int)]).fst + (1 : Int))).snd.snd.snd)⟩)))))) := by kernel_rfl
  refine (congrArg (Tree.ok _) htree).mpr ?_
  clear htree
  have ea : amongS (code, a, sd) [1, 1, 2, 2, 3, 4, 4, 6, 8] = amongS (code, a, sd) beatL := rfl
  have el : ([1, 1, 2, 2, 3, 4, 4, 6, 8] : List Int).length = 9 := rfl
  have eta : ∀ s : Src, (s.1, s.2.1, s.2.2) = s := fun _ => rfl
  have hd := beat_den hp.1
  have hq := (amongS_ok hp.1 beatL).mono (show (800000000 : Int) + 2 ≤ 900000000 by omega)
  have hb := pickS_bd hq (most * (amongS (code, a, sd) beatL).1 + 1)
  have eB : beatS (code, a, sd) most = ((mkF (pickS (amongS (code, a, sd) beatL).2 (most * (amongS (code, a, sd) beatL).1 + 1)).1 (amongS (code, a, sd) beatL).1).1, (pickS (amongS (code, a, sd) beatL).2 (most * (amongS (code, a, sd) beatL).1 + 1)).2) := rfl
  simp only [Tree.ok, tyd_inj, packAV, AV.same, AV.same.sameL, encV, encS, enc, inK, Nd.ok, List.headD_cons, List.cons_append, List.nil_append, List.append_nil, true_and, and_true, Bool.true_and, Bool.and_true, ea, el, eta, eB]
  generalize amongS (code, a, sd) beatL = u at *
  obtain ⟨d, s1⟩ := u
  simp only at *
  have h1 : 0 ≤ most * d := Int.mul_nonneg hp.2.1 (by omega)
  have h2 : most * d ≤ 1000 * d := Int.mul_le_mul_of_nonneg_right hp.2.2 (by omega)
  generalize most * d = md at *
  have hn := hb.2.1 (by omega)
  refine ⟨⟨hp.1.mono (by omega), by decide, by decide⟩, ?_⟩
  repeat' apply And.intro
  all_goals first | omega | exact hq | rfl
def C_Ds_1 : FuncId → Option Ct := addC 56 ct_l02Beat C_Dr
theorem C_Ds_1_ok : COk Tryz.prog C_Ds_1 := addC_ok C_Dr_ok sat_l02Beat

def C_Ds : FuncId → Option Ct := C_Ds_1
theorem C_Ds_ok : COk Tryz.prog C_Ds := C_Ds_1_ok
end Go.Proofs.YtkeckmdmmbeaiaaGreatDoor
