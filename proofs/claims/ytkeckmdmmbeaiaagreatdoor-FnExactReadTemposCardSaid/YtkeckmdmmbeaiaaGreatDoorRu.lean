/- The law on tempo maps read from texts. Conditions: as each says. -/
import Derived.Test.YtkeckmdmmbeaiaaGreatDoorRt
import Derived.Test.YtkeckmdmmbeaiaaGreatDoorFk
set_option linter.unusedSimpArgs false
set_option linter.unusedVariables false
namespace Go.Proofs.YtkeckmdmmbeaiaaGreatDoor
open Go.RowKit Sx
set_option maxRecDepth 100000
set_option maxHeartbeats 1000000
def C_RuB : FuncId → Option Ct := addC 52 ct_markTempoS (addC 53 ct_heldTempoS C_Rt)
theorem C_RuB_ok : COk Tryz.prog C_RuB := addC_ok (addC_ok C_Rt_ok sat_heldTempoS) sat_markTempoS
theorem heldR_markR {α : Type} [DecidableEq α] (f : Int → α) (s : Int) (n : Nat) (k : Int) : heldR f s (rowMark f s n k) k = k + s * (n : Int) := by
  simp [heldR, rowMark_length]
theorem tmI_len (s : Bs) : (tmI s).1.length ≤ 8 := by
  cases h : (tmI s).2
  · have : tmI s = ([], false) := tmOf_no h
    rw [this]; simp
  · have := tmOf_ok h
    exact (tmap_spec this.1).1.2
def ct_markTempoMap : Ct := ctOfW [.os qTempo, .v (.int .i64)] (fun ((ys : List tTempo.den), (k : Int), _) => .p (ys.length ≤ 16777216 ∧ (0 ≤ k ∧ k ≤ 1000000000000))) (fun ((ys : List tTempo.den), (k : Int), _) => .int .i64 (k + 3 * (ys.length : Int))) (fun ((ys : List tTempo.den), (k : Int), _) => ⟨tTempo, rowMark mkTempoV 3 ys.length k⟩)
set_option maxHeartbeats 1000000 in
theorem sat_markTempoMap : Sat Tryz.prog 10 ct_markTempoMap := by
  refine sat_typedW (C := C_RuB) (L := noL) (wr := false) mixedOk Tryz.func10 C_RuB_ok (loops0 (by kernel_rfl)) (fun _ => rfl) fun x hp => ?_
  obtain ⟨(ys : List tTempo.den), (k : Int), _⟩ := x
  replace hp : ys.length ≤ 16777216 ∧ (0 ≤ k ∧ k ≤ 1000000000000) := hp
  have htree : exFuncW Tryz.prog C_RuB false noL Tryz.f10 true (rowed.rowedL BR (encA [.os qTempo, .v (.int .i64)] (ys, k, ()))) ⟨tTempo, ys⟩ = .need (ys.length ≤ (16777216 : Nat) ∧ (0 : Int) ≤ k ∧ k ≤ (1000000000000 : Int)) (.leaf ([.int .i64 (k + (3 : Int) * (↑ys.length : Int))], some ⟨tFrac.pair I64, rowMark mkTempoV (3 : Int) ys.length k⟩)) := by kernel_rfl
  refine (congrArg (Tree.ok _) htree).mpr ?_
  clear htree
  simp only [Tree.ok, tyd_inj, packAV, AV.same, AV.same.sameL, encV, encS, enc, inK, Nd.ok, List.headD_cons, List.cons_append, List.nil_append, List.append_nil, true_and, and_true, Bool.true_and, Bool.and_true]
  repeat' first | apply And.intro | intro _
  all_goals first | omega | trivial | assumption
def C_Ru_1 : FuncId → Option Ct := addC 10 ct_markTempoMap C_RuB
theorem C_Ru_1_ok : COk Tryz.prog C_Ru_1 := addC_ok C_RuB_ok sat_markTempoMap
def ct_heldTempoMap : Ct := ctOf [.s qTempo, .v (.int .i64)] (fun ((ys : List tTempo.den), (k : Int), _) => .p (ys.length ≤ 16777216 ∧ (0 ≤ k ∧ k ≤ 1000000000000))) (fun ((ys : List tTempo.den), (k : Int), _) => .int .i64 (heldR mkTempoV 3 ys k))
set_option maxHeartbeats 1000000 in
theorem sat_heldTempoMap : Sat Tryz.prog 11 ct_heldTempoMap := by
  refine sat_typed (C := C_Ru_1) (L := noL) (wr := false) mixedOk Tryz.func11 C_Ru_1_ok (loops0 (by kernel_rfl)) (fun _ => by first | rfl | (simp [ownsOf, ownsOf.ownsL, enc, encV, encS])) fun x hp => ?_
  obtain ⟨(ys : List tTempo.den), (k : Int), _⟩ := x
  replace hp : ys.length ≤ 16777216 ∧ (0 ≤ k ∧ k ≤ 1000000000000) := hp
  have htree : exFunc Tryz.prog C_Ru_1 false noL Tryz.f11 (encA [.s qTempo, .v (.int .i64)] (ys, k, ())) = .need (ys.length ≤ (16777216 : Nat) ∧ (0 : Int) ≤ k ∧ k ≤ (1000000000000 : Int)) (.ite (decide (heldR mkTempoV (3 : Int) ys k < (0 : Int))) (.leaf [.int .i64 ((-1 : Int))]) (.leaf [.int .i64 (heldR mkTempoV (3 : Int) ys k)])) := by kernel_rfl
  refine (congrArg (Tree.ok _) htree).mpr ?_
  clear htree
  simp only [Tree.ok, tyd_inj, packAV, AV.same, AV.same.sameL, encV, encS, enc, inK, Nd.ok, List.headD_cons, List.cons_append, List.nil_append, List.append_nil, true_and, and_true, Bool.true_and, Bool.and_true]
  repeat' first | apply And.intro | intro _
  all_goals first | omega | trivial | assumption | grind [heldR]
def C_Ru_2 : FuncId → Option Ct := addC 11 ct_heldTempoMap C_Ru_1
theorem C_Ru_2_ok : COk Tryz.prog C_Ru_2 := addC_ok C_Ru_1_ok sat_heldTempoMap
def ct_lawReadTempos : Ct := ctOf [.v .str] (fun _ => .tt) (fun ((s : List UInt8), _) => .bool true)
set_option maxHeartbeats 1000000 in
theorem sat_lawReadTempos : Sat Tryz.prog 3 ct_lawReadTempos := by
  refine sat_typed (C := C_Ru_2) (L := noL) (wr := false) mixedOk Tryz.func3 C_Ru_2_ok (loops0 (by kernel_rfl)) (fun _ => by first | rfl | (simp [ownsOf, ownsOf.ownsL, enc, encV, encS])) fun x hp => ?_
  obtain ⟨(s : List UInt8), _⟩ := x
  clear hp
  have htree : exFunc Tryz.prog C_Ru_2 false noL Tryz.f3 (encA [.v .str] (s, ())) = .ite (decide ((1048576 : Int) < (↑s.length : Int))) (.leaf [.lit true]) (.need (s.length ≤ (1048576 : Nat)) (.need (s.length ≤ (1048576 : Nat)) (.need ((↑(tmI s).fst.length : Int) ≤ (9223372036854775807 : Int)) (.ite (!decide ((tmI s).fst = (tmI s).fst)) (.leaf [.lit false]) (.ite (!(tmI s).snd == (tmI s).snd) (.leaf [.lit false]) (.need ((tmI s).fst.length ≤ (16777216 : Nat) ∧ (0 : Int) ≤ (1 : Int) ∧ (1 : Int) ≤ (1000000000000 : Int)) (.need ((rowMark mkTempoV (3 : Int) (tmI s).fst.length (1 : Int)).length ≤ (16777216 : Nat) ∧ (0 : Int) ≤ (1 : Int) ∧ (1 : Int) ≤ (1000000000000 : Int)) (.ite (decide (heldR mkTempoV (3 : Int) (rowMark mkTempoV (3 : Int) (tmI s).fst.length (1 : Int)) (1 : Int) < (0 : Int))) (.leaf [.lit false]) (.ite (heldR mkTempoV (3 : Int) (rowMark mkTempoV (3 : Int) (tmI s).fst.length (1 : Int)) (1 : Int) != (1 : Int) + (3 : Int) * (↑(tmI s).fst.length : Int)) (.leaf [.lit false]) (.need (s.length ≤ (1048576 : Nat)) (.need ((↑(tmI s).fst.length : Int) ≤ (9223372036854775807 : Int)) (.ite (!decide ((tmI s).fst = (tmI s).fst)) (.leaf [.lit false]) (.ite (!(tmI s).snd == (tmI s).snd) (.leaf [.lit false]) (.need ((rowMark mkTempoV (3 : Int) (tmI s).fst.length (1 : Int)).length ≤ (16777216 : Nat) ∧ (0 : Int) ≤ (1 : Int) ∧ (1 : Int) ≤ (1000000000000 : Int)) (.ite (decide (heldR mkTempoV (3 : Int) (rowMark mkTempoV (3 : Int) (tmI s).fst.length (1 : Int)) (1 : Int) < (0 : Int))) (.leaf [.lit false]) (.ite (heldR mkTempoV (3 : Int) (rowMark mkTempoV (3 : Int) (tmI s).fst.length (1 : Int)) (1 : Int) != (1 : Int) + (3 : Int) * (↑(tmI s).fst.length : Int)) (.leaf [.lit false]) (.leaf [.lit true]))))))))))))))))) := by kernel_rfl
  refine (congrArg (Tree.ok _) htree).mpr ?_
  clear htree
  have h1 := tmI_len s
  simp only [Tree.ok, tyd_inj, packAV, AV.same, AV.same.sameL, encV, encS, enc, inK, Nd.ok, List.headD_cons, List.cons_append, List.nil_append, List.append_nil, true_and, and_true, Bool.true_and, Bool.and_true, heldR_markR, rowMark_length]
  generalize tmI s = q at *
  repeat' first | apply And.intro | intro _
  all_goals first | omega | trivial | grind
def C_Ru_3 : FuncId → Option Ct := addC 3 ct_lawReadTempos C_Ru_2
theorem C_Ru_3_ok : COk Tryz.prog C_Ru_3 := addC_ok C_Ru_2_ok sat_lawReadTempos

def C_Ru : FuncId → Option Ct := C_Ru_3
theorem C_Ru_ok : COk Tryz.prog C_Ru := C_Ru_3_ok
end Go.Proofs.YtkeckmdmmbeaiaaGreatDoor
