/- The law on ItemsOfScore, by the evaluator. Conditions: as each says. -/
import Derived.Test.YtemlpimibhijoaaJl
import Derived.Test.YtemlpimibhijoaaJiM
set_option linter.unusedSimpArgs false
set_option linter.unusedVariables false
namespace Go.Proofs.Ytemlpimibhijoaa
open Go.RowKit Sx
set_option maxRecDepth 100000
set_option maxHeartbeats 1000000
theorem itEnd_sixN : ∀ (xs : List tItem.den) (k : Int), (∀ z ∈ xs, itN z ≤ 6) → itEnd xs k ≤ k + 25 * (xs.length : Int)
  | [], _, _ => by simp [itEnd]
  | x :: xs, k, h => by
    have h1 := itEnd_sixN xs (k + 1 + 3 * (itN x : Int) + 1 + 1 + 1 + 1 + 1 + 1) fun z hz => h z (List.mem_cons_of_mem _ hz)
    have h2 := h x List.mem_cons_self
    simp only [itEnd, List.length_cons]
    omega
theorem itMark_NN : ∀ (xs : List tItem.den) (k : Int), (∀ z ∈ xs, itN z ≤ 16777216) → ∀ z ∈ itMark xs k, itN z ≤ 16777216
  | [], _, _, z, hz => by simp [itMark] at hz
  | x :: xs, k, h, z, hz => by
    simp only [itMark, List.mem_cons] at hz
    rcases hz with rfl | hz
    · rw [mk_self]; exact h x List.mem_cons_self
    · exact itMark_NN xs _ (fun z hz => h z (List.mem_cons_of_mem _ hz)) z hz
theorem heldI_markN (xs : List tItem.den) (k : Int) : heldI (itMark xs k) k = itEnd xs k := by
  simp [heldI, mark_mark, mark_end]
theorem build_six : ∀ (gs : List Nts) (a b lo : Int), (∀ g ∈ gs, g.length ≤ 6) → ∀ z ∈ (buildGo gs a b lo).1, itN z ≤ 6
  | [], _, _, _, _, z, hz => by simp [buildGo] at hz
  | g :: t, a, b, lo, h, z, hz => by
    unfold buildGo at hz
    split at hz
    · simp at hz
    · rcases List.mem_append.1 hz with hz | hz
      · unfold gapI at hz
        split at hz
        · simp at hz
        · rw [List.mem_singleton.1 hz]; exact Nat.zero_le _
      · rcases List.mem_append.1 hz with hz | hz
        · unfold loudI at hz
          split at hz
          · simp at hz
          · rw [List.mem_singleton.1 hz]; exact Nat.zero_le _
        · rcases List.mem_cons.1 hz with rfl | hz
          · show List.length (g.map pN) ≤ 6
            rw [List.length_map]; exact h g List.mem_cons_self
          · exact build_six t _ _ _ (fun g hg => h g (List.mem_cons_of_mem _ hg)) z hz
theorem are_six {gs : List Nts} (h : areB gs = true) : ∀ g ∈ gs, g.length ≤ 6 := fun g hg => by
  obtain ⟨i, hi, rfl⟩ := List.getElem_of_mem hg
  have := ((areB_iff gs).1 h i hi).2.1
  unfold gAt at this
  rw [getD_lt _ _ _ hi] at this
  exact this
theorem implI_six (xs : Nts) (ch : Int) : (implI xs ch).1.length ≤ 80 ∧ ∀ z ∈ (implI xs ch).1, itN z ≤ 6 := by
  unfold implI implC
  split
  · split
    · split
      · rename_i ha
        split
        · split
          · simp
          · rename_i h8
            exact ⟨by simp only; omega, build_six _ _ _ _ (are_six ha)⟩
        · simp
      · simp
    · simp
  · simp
def ct_markScoreN : Ct := ctOfW [.os qNote, .v (.int .i64)] (fun ((ys : List tNote.den), (k : Int), _) => .p (ys.length ≤ 16777216 ∧ (0 ≤ k ∧ k ≤ 1000000000000))) (fun ((ys : List tNote.den), (k : Int), _) => .int .i64 (k + 7 * (ys.length : Int))) (fun ((ys : List tNote.den), (k : Int), _) => ⟨tNote, rowMark mkNoteV 7 ys.length k⟩)
set_option maxHeartbeats 1000000 in
theorem sat_markScoreN : Sat Try.prog 14 ct_markScoreN := by
  refine sat_typedW (C := C_Jl) (L := noL) (wr := false) mixedOk Try.func14 C_Jl_ok (loops0 (by kernel_rfl)) (fun _ => rfl) fun x hp => ?_
  obtain ⟨(ys : List tNote.den), (k : Int), _⟩ := x
  replace hp : ys.length ≤ 16777216 ∧ (0 ≤ k ∧ k ≤ 1000000000000) := hp
  have htree : exFuncW Try.prog C_Jl false noL Try.f14 true (rowed.rowedL BR (encA [.os qNote, .v (.int .i64)] (ys, k, ()))) ⟨tNote, ys⟩ = .need (ys.length ≤ (16777216 : Nat) ∧ (0 : Int) ≤ k ∧ k ≤ (1000000000000 : Int)) (.leaf ([.int .i64 (k + (7 : Int) * (↑ys.length : Int))], some ⟨tFrac.pair (tFrac.pair (I64.pair (I64.pair I64))), rowMark mkNoteV (7 : Int) ys.length k⟩)) := by kernel_rfl
  refine (congrArg (Tree.ok _) htree).mpr ?_
  clear htree
  simp only [Tree.ok, tyd_inj, packAV, AV.same, AV.same.sameL, encV, encS, enc, inK, Nd.ok, List.headD_cons, List.cons_append, List.nil_append, List.append_nil, true_and, and_true, Bool.true_and, Bool.and_true]
  repeat' first | apply And.intro | intro _
  all_goals first | omega | trivial | assumption
def C_Jn_1 : FuncId → Option Ct := addC 14 ct_markScoreN C_Jl
theorem C_Jn_1_ok : COk Try.prog C_Jn_1 := addC_ok C_Jl_ok sat_markScoreN
def ct_lawItemsOfScore : Ct := ctOf [.s qNote, .v (.int .i64)] (fun ((xs : List tNote.den), (ch : Int), _) => .p ((xs.length : Int) ≤ 9223372036854775807)) (fun ((xs : List tNote.den), (ch : Int), _) => .bool true)
set_option maxHeartbeats 1000000 in
theorem sat_lawItemsOfScore : Sat Try.prog 6 ct_lawItemsOfScore := by
  refine sat_typed (C := C_Jn_1) (L := noL) (wr := false) mixedOk Try.func6 C_Jn_1_ok (loops0 (by kernel_rfl)) (fun _ => by first | rfl | (simp [ownsOf, ownsOf.ownsL, enc, encV, encS])) fun x hp => ?_
  obtain ⟨(xs : List tNote.den), (ch : Int), _⟩ := x
  replace hp : (xs.length : Int) ≤ 9223372036854775807 := hp
  have htree : exFunc Try.prog C_Jn_1 false noL Try.f6 (encA [.s qNote, .v (.int .i64)] (xs, ch, ())) = .need (((0 : Int) ≤ (1048576 : Int) ∧ (1048576 : Int) ≤ (1048576 : Int)) ∧ (↑xs.length : Int) ≤ (9223372036854775807 : Int)) (.ite (decide ((if (1048576 : Int) - (↑xs.length : Int) < (0 : Int) then (-1 : Int) else (1048576 : Int) - (↑xs.length : Int)) < (0 : Int))) (.leaf [.lit true]) (.need (xs.length ≤ (16777216 : Nat)) (.need ((↑xs.length : Int) ≤ (9223372036854775807 : Int)) (.need (xs.length ≤ (16777216 : Nat)) (.need ((↑xs.length : Int) ≤ (9223372036854775807 : Int)) (.need ((↑(implI xs ch).fst.length : Int) ≤ (9223372036854775807 : Int) ∧ ∀ (z : tItem.den), z ∈ (implI xs ch).fst → pLen z.snd.fst ≤ (9223372036854775807 : Int)) (.ite (!decide ((implI xs ch).fst = (specI xs ch).fst)) (.leaf [.lit false]) (.ite ((implI xs ch).snd != (specI xs ch).snd) (.leaf [.lit false]) (.need (xs.length ≤ (16777216 : Nat)) (.need ((↑xs.length : Int) ≤ (9223372036854775807 : Int)) (.ite (!decide (xs = xs)) (.leaf [.lit false]) (.need (xs.length ≤ (16777216 : Nat) ∧ (0 : Int) ≤ (1 : Int) ∧ (1 : Int) ≤ (1000000000000 : Int)) (.ite (decide ((1 : Int) + (7 : Int) * (↑xs.length : Int) < (0 : Int))) (.leaf [.lit false]) (.need ((↑(implI xs ch).fst.length : Int) ≤ (9223372036854775807 : Int) ∧ ∀ (z : tItem.den), z ∈ (implI xs ch).fst → pLen z.snd.fst ≤ (9223372036854775807 : Int)) (.ite (!decide ((implI xs ch).fst = (specI xs ch).fst)) (.leaf [.lit false]) (.ite ((implI xs ch).snd != (specI xs ch).snd) (.leaf [.lit false]) (.need (((implI xs ch).fst.length ≤ (16777216 : Nat) ∧ (0 : Int) ≤ (1 : Int) ∧ itEnd (implI xs ch).fst (1 : Int) ≤ (1000000000000 : Int)) ∧ ∀ (z : tItem.den), z ∈ (implI xs ch).fst → itN z ≤ (16777216 : Nat)) (.need (((itMark (implI xs ch).fst (1 : Int)).length ≤ (16777216 : Nat) ∧ (0 : Int) ≤ (1 : Int) ∧ itEnd (itMark (implI xs ch).fst (1 : Int)) (1 : Int) ≤ (1000000000000 : Int)) ∧ ∀ (z : tItem.den), z ∈ itMark (implI xs ch).fst (1 : Int) → itN z ≤ (16777216 : Nat)) (.ite (decide (heldI (itMark (implI xs ch).fst (1 : Int)) (1 : Int) < (0 : Int))) (.leaf [.lit false]) (.ite (heldI (itMark (implI xs ch).fst (1 : Int)) (1 : Int) != itEnd (implI xs ch).fst (1 : Int)) (.leaf [.lit false]) (.need (xs.length ≤ (16777216 : Nat)) (.need ((↑xs.length : Int) ≤ (9223372036854775807 : Int)) (.need ((↑(implI xs ch).fst.length : Int) ≤ (9223372036854775807 : Int) ∧ ∀ (z : tItem.den), z ∈ (implI xs ch).fst → pLen z.snd.fst ≤ (9223372036854775807 : Int)) (.ite (!decide ((implI xs ch).fst = (specI xs ch).fst)) (.leaf [.lit false]) (.ite ((implI xs ch).snd != (specI xs ch).snd) (.leaf [.lit false]) (.need (((itMark (implI xs ch).fst (1 : Int)).length ≤ (16777216 : Nat) ∧ (0 : Int) ≤ (1 : Int) ∧ itEnd (itMark (implI xs ch).fst (1 : Int)) (1 : Int) ≤ (1000000000000 : Int)) ∧ ∀ (z : tItem.den), z ∈ itMark (implI xs ch).fst (1 : Int) → itN z ≤ (16777216 : Nat)) (.ite (decide (heldI (itMark (implI xs ch).fst (1 : Int)) (1 : Int) < (0 : Int))) (.leaf [.lit false]) (.ite (heldI (itMark (implI xs ch).fst (1 : Int)) (1 : Int) != itEnd (implI xs ch).fst (1 : Int)) (.leaf [.lit false]) (.leaf [.lit true]))))))))))))))))))))))))))))) := by kernel_rfl
  refine (congrArg (Tree.ok _) htree).mpr ?_
  clear htree
  obtain ⟨hL, hN⟩ := implI_six xs ch
  have hE := itEnd_sixN (implI xs ch).1 1 hN
  have hM := itMark_NN (implI xs ch).1 1 (fun z hz => Nat.le_trans (hN z hz) (by omega))
  have hE0 := itEnd_le (implI xs ch).1 1
  have hml : (itMark (implI xs ch).1 1).length ≤ 16777216 := by rw [itMark_length]; omega
  simp only [Tree.ok, tyd_inj, packAV, AV.same, AV.same.sameL, encV, encS, enc, inK, Nd.ok, List.headD_cons, List.cons_append, List.nil_append, List.append_nil, true_and, and_true, Bool.true_and, Bool.and_true, items_same, heldI_markN, itMark_length, mark_end]
  generalize implI xs ch = V at *
  generalize itEnd V.1 1 = e2 at *
  have h8 : ∀ z ∈ V.1, itN z ≤ 16777216 := fun z hz => Nat.le_trans (hN z hz) (by omega)
  have h9 : ∀ z ∈ V.1, pLen z.2.1 ≤ 6 := fun z hz => by
    have := hN z hz
    show (itN z : Int) ≤ 6
    omega
  repeat' first | apply And.intro | intro _
  all_goals first | omega | trivial | exact hml | exact h8 _ ‹_› | exact hM _ ‹_› | (have := h9 _ ‹_›; omega) | (simp_all; done) | (simp_all; omega)
def C_Jn_2 : FuncId → Option Ct := addC 6 ct_lawItemsOfScore C_Jn_1
theorem C_Jn_2_ok : COk Try.prog C_Jn_2 := addC_ok C_Jn_1_ok sat_lawItemsOfScore

def C_Jn : FuncId → Option Ct := C_Jn_2
theorem C_Jn_ok : COk Try.prog C_Jn := C_Jn_2_ok
end Go.Proofs.Ytemlpimibhijoaa
