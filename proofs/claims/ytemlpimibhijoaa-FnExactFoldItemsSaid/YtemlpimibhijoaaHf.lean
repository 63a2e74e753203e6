/- The law on LengthOfItems, by the evaluator. Conditions: as each says. -/
import Derived.Test.YtemlpimibhijoaaHe
set_option linter.unusedSimpArgs false
set_option linter.unusedVariables false
namespace Go.Proofs.Ytemlpimibhijoaa
open Go.RowKit Sx
set_option maxRecDepth 100000
set_option maxHeartbeats 1000000
def flatC (l : Its) : Its × Int := if 80 < cntI l then ([], 5) else flatV l
def okItems (l : Its) : Bool := decide (l.length ≤ 80) && rngF l.length l 0
def flatA (l : Its) : Its × Int := if okItems l = true then flatC l else ([], 1)
theorem okItems_vl {l : Its} (h : okItems l = true) : l.length ≤ 80 ∧ ∃ d : Int, 0 ≤ d ∧ d ≤ 3 ∧ vl l d := by
  simp only [okItems, Bool.and_eq_true, decide_eq_true_eq] at h
  exact ⟨h.1, 0, by omega, by omega, h.2⟩
theorem flatA_gd (l : Its) : (∀ y ∈ (flatA l).1, gdI y) ∧ (flatA l).1.length ≤ 80 := by
  unfold flatA
  split
  · rename_i h
    obtain ⟨_, d, d0, d3, hv⟩ := okItems_vl h
    have hg := flatV_gd d0 d3 hv
    unfold flatC
    split
    · simp
    · exact ⟨hg.1, by omega⟩
  · simp
theorem lenGo_code : ∀ (l : Its) (e : Int × Int), (lenGo l e).2 = 0 ∨ ((lenGo l e).2 = 2 ∧ (lenGo l e).1 = (0, 0))
  | [], _ => .inl rfl
  | y :: t, e => by
    unfold lenGo
    split
    · exact lenGo_code t e
    · split
      · exact lenGo_code t _
      · exact .inr ⟨rfl, rfl⟩
def ct_flattenCode : Ct := ctOf [.v qItem] (fun ((l : List tItem.den), _) => .p (l.length ≤ 80 ∧ ∃ d : Int, 0 ≤ d ∧ d ≤ 3 ∧ vl l d)) (fun ((l : List tItem.den), _) => .tup [.own tItem (flatC l).1, .int .i64 (flatC l).2])
set_option maxHeartbeats 1000000 in
theorem sat_flattenCode : Sat Try.prog 41 ct_flattenCode := by
  refine sat_typed (C := C_He) (L := noL) (wr := false) mixedOk Try.func41 C_He_ok (loops0 (by kernel_rfl)) (fun _ => by first | rfl | (simp [ownsOf, ownsOf.ownsL, enc, encV, encS])) fun x hp => ?_
  obtain ⟨(l : List tItem.den), _⟩ := x
  replace hp : l.length ≤ 80 ∧ ∃ d : Int, 0 ≤ d ∧ d ≤ 3 ∧ vl l d := hp
  have htree : exFunc Try.prog C_He false noL Try.f41 (encA [.v qItem] (l, ())) = .need (l.length ≤ (80 : Nat) ∧ ∃ (d : Int), (0 : Int) ≤ d ∧ d ≤ (3 : Int) ∧ vl l d) (.ite (decide ((80 : Int) < cntI l)) (.leaf [.nilS, .int .i64 ((5 : Int))]) (.need (l.length ≤ (80 : Nat) ∧ ∃ (d : Int), (0 : Int) ≤ d ∧ d ≤ (3 : Int) ∧ vl l d) (.leaf [.own (I64.pair (tPitch.seq.pair (tFrac.pair (I64.pair (tIv.pair I64))))) ((flatV l).fst), .int .i64 ((flatV l).snd)]))) := by kernel_rfl
  refine (congrArg (Tree.ok _) htree).mpr ?_
  clear htree
  obtain ⟨h1, h2⟩ := hp
  simp only [Tree.ok, tyd_inj, packAV, AV.same, AV.same.sameL, encV, encS, enc, inK, Nd.ok, List.headD_cons, List.cons_append, List.nil_append, List.append_nil, true_and, and_true, Bool.true_and, Bool.and_true, flatC]
  by_cases hc : 80 < cntI l
  all_goals
    simp only [hc, if_true, if_false]
    repeat' first | apply And.intro | intro _
    all_goals first | omega | assumption | trivial | rfl | contradiction | (simp_all; done)
def C_Hf_1 : FuncId → Option Ct := addC 41 ct_flattenCode C_He
theorem C_Hf_1_ok : COk Try.prog C_Hf_1 := addC_ok C_He_ok sat_flattenCode
def ct_iFlattenItems : Ct := ctOf [.v qItem] (fun ((l : List tItem.den), _) => .p ((l.length : Int) ≤ 9223372036854775807 ∧ ∀ z ∈ l, pLen z.2.1 ≤ 9223372036854775807)) (fun ((l : List tItem.den), _) => .tup [.own tItem (flatA l).1, .int .i64 (flatA l).2])
set_option maxHeartbeats 1000000 in
theorem sat_iFlattenItems : Sat Try.prog 17 ct_iFlattenItems := by
  refine sat_typed (C := C_Hf_1) (L := noL) (wr := false) mixedOk Try.func17 C_Hf_1_ok (loops0 (by kernel_rfl)) (fun _ => by first | rfl | (simp [ownsOf, ownsOf.ownsL, enc, encV, encS])) fun x hp => ?_
  obtain ⟨(l : List tItem.den), _⟩ := x
  replace hp : (l.length : Int) ≤ 9223372036854775807 ∧ ∀ z ∈ l, pLen z.2.1 ≤ 9223372036854775807 := hp
  have htree : exFunc Try.prog C_Hf_1 false noL Try.f17 (encA [.v qItem] (l, ())) = .need ((↑l.length : Int) ≤ (9223372036854775807 : Int) ∧ ∀ (z : tItem.den), z ∈ l → pLen z.snd.fst ≤ (9223372036854775807 : Int)) (.ite (!(decide (l.length ≤ (80 : Nat)) && rngF l.length l (0 : Int))) (.leaf [.nilS, .int .i64 ((1 : Int))]) (.need (l.length ≤ (80 : Nat) ∧ ∃ (d : Int), (0 : Int) ≤ d ∧ d ≤ (3 : Int) ∧ vl l d) (.leaf [.own (I64.pair (tPitch.seq.pair (tFrac.pair (I64.pair (tIv.pair I64))))) ((flatC l).fst), .int .i64 ((flatC l).snd)]))) := by kernel_rfl
  refine (congrArg (Tree.ok _) htree).mpr ?_
  clear htree
  have hv := @okItems_vl l
  have e : (decide (l.length ≤ 80) && rngF l.length l 0) = okItems l := rfl
  simp only [Tree.ok, tyd_inj, packAV, AV.same, AV.same.sameL, encV, encS, enc, inK, Nd.ok, List.headD_cons, List.cons_append, List.nil_append, List.append_nil, true_and, and_true, Bool.true_and, Bool.and_true, flatA, e]
  cases ho : okItems l
  all_goals
    simp only [Bool.false_eq_true, if_false, if_true]
    repeat' first | apply And.intro | intro _
    all_goals first | exact hp.1 | exact hp.2 _ ‹_› | exact (hv ho).1 | exact (hv ho).2 | trivial | rfl | contradiction | (simp_all; done)
def C_Hf_2 : FuncId → Option Ct := addC 17 ct_iFlattenItems C_Hf_1
theorem C_Hf_2_ok : COk Try.prog C_Hf_2 := addC_ok C_Hf_1_ok sat_iFlattenItems
def ct_sFlattenItems : Ct := ctOf [.v qItem] (fun ((l : List tItem.den), _) => .p ((l.length : Int) ≤ 9223372036854775807 ∧ ∀ z ∈ l, pLen z.2.1 ≤ 9223372036854775807)) (fun ((l : List tItem.den), _) => .tup [.own tItem (flatA l).1, .int .i64 (flatA l).2])
set_option maxHeartbeats 1000000 in
theorem sat_sFlattenItems : Sat Try.prog 16 ct_sFlattenItems := by
  refine sat_typed (C := C_Hf_2) (L := noL) (wr := false) mixedOk Try.func16 C_Hf_2_ok (loops0 (by kernel_rfl)) (fun _ => by first | rfl | (simp [ownsOf, ownsOf.ownsL, enc, encV, encS])) fun x hp => ?_
  obtain ⟨(l : List tItem.den), _⟩ := x
  replace hp : (l.length : Int) ≤ 9223372036854775807 ∧ ∀ z ∈ l, pLen z.2.1 ≤ 9223372036854775807 := hp
  have htree : exFunc Try.prog C_Hf_2 false noL Try.f16 (encA [.v qItem] (l, ())) = .need ((↑l.length : Int) ≤ (9223372036854775807 : Int) ∧ ∀ (z : tItem.den), z ∈ l → pLen z.snd.fst ≤ (9223372036854775807 : Int)) (.ite (!(decide (l.length ≤ (80 : Nat)) && rngF l.length l (0 : Int))) (.leaf [.nilS, .int .i64 ((1 : Int))]) (.need (l.length ≤ (80 : Nat) ∧ ∃ (d : Int), (0 : Int) ≤ d ∧ d ≤ (3 : Int) ∧ vl l d) (.ite (decide ((80 : Int) < cntI l)) (.leaf [.nilS, .int .i64 ((5 : Int))]) (.need (l.length ≤ (80 : Nat) ∧ ∃ (d : Int), (0 : Int) ≤ d ∧ d ≤ (3 : Int) ∧ vl l d) (.leaf [.own (I64.pair (tPitch.seq.pair (tFrac.pair (I64.pair (tIv.pair I64))))) ((flatV l).fst), .int .i64 ((flatV l).snd)]))))) := by kernel_rfl
  refine (congrArg (Tree.ok _) htree).mpr ?_
  clear htree
  have hv := @okItems_vl l
  have e : (decide (l.length ≤ 80) && rngF l.length l 0) = okItems l := rfl
  simp only [Tree.ok, tyd_inj, packAV, AV.same, AV.same.sameL, encV, encS, enc, inK, Nd.ok, List.headD_cons, List.cons_append, List.nil_append, List.append_nil, true_and, and_true, Bool.true_and, Bool.and_true, flatA, flatC, e, decide_eq_true_eq, decide_eq_false_iff_not]
  cases ho : okItems l
  · simp only [Bool.false_eq_true, if_false]
    repeat' first | apply And.intro | intro _
    all_goals first | exact hp.1 | exact hp.2 _ ‹_› | trivial | rfl | contradiction | (simp_all; done)
  · simp only [if_true]
    by_cases hc : 80 < cntI l
    all_goals
      simp only [hc, if_true, if_false]
      repeat' first | apply And.intro | intro _
      all_goals first | exact hp.1 | exact hp.2 _ ‹_› | exact (hv ho).1 | exact (hv ho).2 | trivial | rfl | contradiction | (simp_all; done)
def C_Hf_3 : FuncId → Option Ct := addC 16 ct_sFlattenItems C_Hf_2
theorem C_Hf_3_ok : COk Try.prog C_Hf_3 := addC_ok C_Hf_2_ok sat_sFlattenItems
def lenF2 (l : Its) : (Int × Int) × Int := if (flatA l).2 = 0 then lenGo (flatA l).1 (0, 1) else ((0, 0), (flatA l).2)

def C_Hf : FuncId → Option Ct := C_Hf_3
theorem C_Hf_ok : COk Try.prog C_Hf := C_Hf_3_ok
end Go.Proofs.Ytemlpimibhijoaa
