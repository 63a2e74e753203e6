/- The law on RatioOfKeys, by the evaluator. Conditions: as each says. -/
import Derived.Test.YtkeckmdmmbeaiaaGreatDoorFi
set_option linter.unusedSimpArgs false
set_option linter.unusedVariables false
namespace Go.Proofs.YtkeckmdmmbeaiaaGreatDoor
open Go.RowKit Sx
set_option maxRecDepth 100000
set_option maxHeartbeats 1000000
theorem tune_at {x : tTuning.den} (h : tuneF x = true) (i : Nat) (hi : i < (x.2.2 : List tFrac.den).length) : okF (atF x.2.2 i).1 (atF x.2.2 i).2 = true := by
  have hs := rat_split x.2.2 x.2.1.1 x.2.1.2 (x.2.2 : List tFrac.den).length 0 (by omega)
  rw [List.drop_zero] at hs
  simp only [tuneF, hs, Bool.and_eq_true] at h
  exact okFs_get h.2.2.2.2.2.2.1 i hi
theorem freqF_code {x : tTuning.den} (h : tuneF x = true) (key : Int) (hk : 0 ≤ key ∧ key ≤ 127) : (freqF x key).2 = 0 ∨ (freqF x key).2 = 2 := by
  have hb := tune_bd h
  have hd := div_key key ((x.2.2 : List tFrac.den).length : Int) hk (by omega)
  unfold freqF
  split
  · rcases mulF_ok (freqGo_ok hb.2.1 (key / ((x.2.2 : List tFrac.den).length : Int)).toNat x.1 hb.1) (tune_at h (key % ((x.2.2 : List tFrac.den).length : Int)).toNat (by omega)) with g | g
    · exact .inl g.1
    · exact .inr g.1
  · exact .inr rfl
def fokF (x : tTuning.den) (key : Int) : (Int × Int) × Int := if tuneF x = true then (if inB key 0 127 = true then freqF x key else ((0, 0), 2)) else ((0, 0), 1)
theorem fokF_code (x : tTuning.den) (key : Int) : (tuneF x = false → (fokF x key).2 = 1) ∧ (tuneF x = true → (fokF x key).2 = 0 ∨ (fokF x key).2 = 2) := by
  refine ⟨fun h => by simp [fokF, h], fun h => ?_⟩
  unfold fokF
  rw [if_pos h]
  split
  · rename_i hk; exact freqF_code h key ((inB_iff _ _ _).1 hk)
  · exact .inr rfl
def ratioF (x : tTuning.den) (lo hi : Int) : (Int × Int) × Int := if (fokF x lo).2 = 0 ∧ (fokF x hi).2 = 0 then divF (fokF x hi).1.1 (fokF x hi).1.2 (fokF x lo).1.1 (fokF x lo).1.2 else ((0, 0), if tuneF x = true then 2 else 1)
def ct_FrequencyOfKey : Ct := ctOf [.s tTuning, .v (.int .i64)] (fun ((x : tTuning.den), (key : Int), _) => .p (((x.2.2 : List tFrac.den).length : Int) ≤ 9223372036854775807)) (fun ((x : tTuning.den), (key : Int), _) => .tup [.agg (enc tFrac (fokF x key).1), .int .i64 (fokF x key).2])
set_option maxHeartbeats 1000000 in
theorem sat_FrequencyOfKey : Sat Tryz.prog 23 ct_FrequencyOfKey := by
  refine sat_typed (C := C_Fi) (L := noL) (wr := false) mixedOk Tryz.func23 C_Fi_ok (loops0 (by kernel_rfl)) (fun _ => by first | rfl | (simp [ownsOf, ownsOf.ownsL, enc, encV, encS])) fun x hp => ?_
  obtain ⟨(x : tTuning.den), (key : Int), _⟩ := x
  replace hp : ((x.2.2 : List tFrac.den).length : Int) ≤ 9223372036854775807 := hp
  have htree : exFunc Tryz.prog C_Fi false noL Tryz.f23 (encA [.s tTuning, .v (.int .i64)] (x, key, ())) = .need ((↑(List.length x.snd.snd) : Int) ≤ (9223372036854775807 : Int)) (.ite (!tuneF ((x.fst.fst, x.fst.snd), (x.snd.fst.fst, x.snd.fst.snd), x.snd.snd)) (.leaf [.agg [.int .i64 ((0 : Int)), .int .i64 ((0 : Int))], .int .i64 ((1 : Int))]) (.ite (!inB key (0 : Int) (127 : Int)) (.leaf [.agg [.int .i64 ((0 : Int)), .int .i64 ((0 : Int))], .int .i64 ((2 : Int))]) (.need (tuneF ((x.fst.fst, x.fst.snd), (x.snd.fst.fst, x.snd.fst.snd), x.snd.snd) = true ∧ (0 : Int) ≤ key ∧ key ≤ (127 : Int)) (.leaf [.agg [.int .i64 ((freqF ((x.fst.fst, x.fst.snd), (x.snd.fst.fst, x.snd.fst.snd), x.snd.snd) key).fst.fst), .int .i64 ((freqF ((x.fst.fst, x.fst.snd), (x.snd.fst.fst, x.snd.fst.snd), x.snd.snd) key).fst.snd)], .int .i64 ((freqF ((x.fst.fst, x.fst.snd), (x.snd.fst.fst, x.snd.fst.snd), x.snd.snd) key).snd)])))) := by kernel_rfl
  refine (congrArg (Tree.ok _) htree).mpr ?_
  clear htree
  simp only [Tree.ok, tyd_inj, packAV, AV.same, AV.same.sameL, encV, encS, enc, inK, Nd.ok, List.headD_cons, List.cons_append, List.nil_append, List.append_nil, true_and, and_true, Bool.true_and, Bool.and_true, fokF]
  repeat' first | apply And.intro | intro _
  all_goals first | omega | grind [inB]
def C_Fj_1 : FuncId → Option Ct := addC 23 ct_FrequencyOfKey C_Fi
theorem C_Fj_1_ok : COk Tryz.prog C_Fj_1 := addC_ok C_Fi_ok sat_FrequencyOfKey
def ct_iRatioOfKeys : Ct := ctOf [.s tTuning, .v (.int .i64), .v (.int .i64)] (fun ((x : tTuning.den), (lo : Int), (hi : Int), _) => .p (((x.2.2 : List tFrac.den).length : Int) ≤ 9223372036854775807)) (fun ((x : tTuning.den), (lo : Int), (hi : Int), _) => .tup [.agg (enc tFrac (ratioF x lo hi).1), .int .i64 (ratioF x lo hi).2])
set_option maxHeartbeats 1000000 in
theorem sat_iRatioOfKeys : Sat Tryz.prog 26 ct_iRatioOfKeys := by
  refine sat_typed (C := C_Fj_1) (L := noL) (wr := false) mixedOk Tryz.func26 C_Fj_1_ok (loops0 (by kernel_rfl)) (fun _ => by first | rfl | (simp [ownsOf, ownsOf.ownsL, enc, encV, encS])) fun x hp => ?_
  obtain ⟨(x : tTuning.den), (lo : Int), (hi : Int), _⟩ := x
  replace hp : ((x.2.2 : List tFrac.den).length : Int) ≤ 9223372036854775807 := hp
  have htree : exFunc Tryz.prog C_Fj_1 false noL Tryz.f26 (encA [.s tTuning, .v (.int .i64), .v (.int .i64)] (x, lo, hi, ())) = .need ((↑(List.length x.snd.snd) : Int) ≤ (9223372036854775807 : Int)) (.need ((↑(List.length x.snd.snd) : Int) ≤ (9223372036854775807 : Int)) (.ite ((fokF ((x.fst.fst, x.fst.snd), (x.snd.fst.fst, x.snd.fst.snd), x.snd.snd) lo).snd != (0 : Int)) (.leaf [.agg [.int .i64 ((0 : Int)), .int .i64 ((0 : Int))], .int .i64 (bif true then max (fokF ((x.fst.fst, x.fst.snd), (x.snd.fst.fst, x.snd.fst.snd), x.snd.snd) lo).snd (fokF ((x.fst.fst, x.fst.snd), (x.snd.fst.fst, x.snd.fst.snd), x.snd.snd) hi).snd else min (fokF ((x.fst.fst, x.fst.snd), (x.snd.fst.fst, x.snd.fst.snd), x.snd.snd) lo).snd (fokF ((x.fst.fst, x.fst.snd), (x.snd.fst.fst, x.snd.fst.snd), x.snd.snd) hi).snd)]) (.ite ((fokF ((x.fst.fst, x.fst.snd), (x.snd.fst.fst, x.snd.fst.snd), x.snd.snd) hi).snd != (0 : Int)) (.leaf [.agg [.int .i64 ((0 : Int)), .int .i64 ((0 : Int))], .int .i64 (bif true then max (fokF ((x.fst.fst, x.fst.snd), (x.snd.fst.fst, x.snd.fst.snd), x.snd.snd) lo).snd (fokF ((x.fst.fst, x.fst.snd), (x.snd.fst.fst, x.snd.fst.snd), x.snd.snd) hi).snd else min (fokF ((x.fst.fst, x.fst.snd), (x.snd.fst.fst, x.snd.fst.snd), x.snd.snd) lo).snd (fokF ((x.fst.fst, x.fst.snd), (x.snd.fst.fst, x.snd.fst.snd), x.snd.snd) hi).snd)]) (.leaf [.agg [.int .i64 ((divF (fokF ((x.fst.fst, x.fst.snd), (x.snd.fst.fst, x.snd.fst.snd), x.snd.snd) hi).fst.fst (fokF ((x.fst.fst, x.fst.snd), (x.snd.fst.fst, x.snd.fst.snd), x.snd.snd) hi).fst.snd (fokF ((x.fst.fst, x.fst.snd), (x.snd.fst.fst, x.snd.fst.snd), x.snd.snd) lo).fst.fst (fokF ((x.fst.fst, x.fst.snd), (x.snd.fst.fst, x.snd.fst.snd), x.snd.snd) lo).fst.snd).fst.fst), .int .i64 ((divF (fokF ((x.fst.fst, x.fst.snd), (x.snd.fst.fst, x.snd.fst.snd), x.snd.snd) hi).fst.fst (fokF ((x.fst.fst, x.fst.snd), (x.snd.fst.fst, x.snd.fst.snd), x.snd.snd) hi).fst.snd (fokF ((x.fst.fst, x.fst.snd), (x.snd.fst.fst, x.snd.fst.snd), x.snd.snd) lo).fst.fst (fokF ((x.fst.fst, x.fst.snd), (x.snd.fst.fst, x.snd.fst.snd), x.snd.snd) lo).fst.snd).fst.snd)], .int .i64 ((divF (fokF ((x.fst.fst, x.fst.snd), (x.snd.fst.fst, x.snd.fst.snd), x.snd.snd) hi).fst.fst (fokF ((x.fst.fst, x.fst.snd), (x.snd.fst.fst, x.snd.fst.snd), x.snd.snd) hi).fst.snd (fokF ((x.fst.fst, x.fst.snd), (x.snd.fst.fst, x.snd.fst.snd), x.snd.snd) lo).fst.fst (fokF ((x.fst.fst, x.fst.snd), (x.snd.fst.fst, x.snd.fst.snd), x.snd.snd) lo).fst.snd).snd)])))) := by kernel_rfl
  refine (congrArg (Tree.ok _) htree).mpr ?_
  clear htree
  have h1 := fokF_code x lo
  have h2 := fokF_code x hi
  simp only [Tree.ok, tyd_inj, packAV, AV.same, AV.same.sameL, encV, encS, enc, inK, Nd.ok, List.headD_cons, List.cons_append, List.nil_append, List.append_nil, true_and, and_true, Bool.true_and, Bool.and_true, ratioF]
  generalize fokF x lo = p at *
  generalize fokF x hi = q at *
  repeat' first | apply And.intro | intro _
  all_goals first | omega | grind
def C_Fj_2 : FuncId → Option Ct := addC 26 ct_iRatioOfKeys C_Fj_1
theorem C_Fj_2_ok : COk Tryz.prog C_Fj_2 := addC_ok C_Fj_1_ok sat_iRatioOfKeys

def C_Fj : FuncId → Option Ct := C_Fj_2
theorem C_Fj_ok : COk Tryz.prog C_Fj := C_Fj_2_ok
end Go.Proofs.YtkeckmdmmbeaiaaGreatDoor
