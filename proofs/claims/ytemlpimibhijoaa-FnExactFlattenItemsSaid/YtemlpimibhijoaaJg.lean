/- The law on FlattenItems, by the evaluator. Conditions: as each says. -/
import Derived.Test.YtemlpimibhijoaaJf
set_option linter.unusedSimpArgs false
set_option linter.unusedVariables false
namespace Go.Proofs.Ytemlpimibhijoaa
open Go.RowKit Sx
set_option maxRecDepth 100000
set_option maxHeartbeats 1000000
def ct_lawFlattenItems : Ct := ctOf [.v qItem] (fun ((xs : List tItem.den), _) => .p ((xs.length : Int) ≤ 9223372036854775807 ∧ ∀ z ∈ xs, pLen z.2.1 ≤ 9223372036854775807)) (fun ((xs : List tItem.den), _) => .bool true)
set_option maxHeartbeats 1000000 in
theorem sat_lawFlattenItems : Sat Try.prog 4 ct_lawFlattenItems := by
  refine sat_typed (C := C_Jf) (L := noL) (wr := false) mixedOk Try.func4 C_Jf_ok (loops0 (by kernel_rfl)) (fun _ => by first | rfl | (simp [ownsOf, ownsOf.ownsL, enc, encV, encS])) fun x hp => ?_
  obtain ⟨(xs : List tItem.den), _⟩ := x
  replace hp : (xs.length : Int) ≤ 9223372036854775807 ∧ ∀ z ∈ xs, pLen z.2.1 ≤ 9223372036854775807 := hp
  have htree : exFunc Try.prog C_Jf false noL Try.f4 (encA [.v qItem] (xs, ())) = .need ((((0 : Int) ≤ (1048576 : Int) ∧ (1048576 : Int) ≤ (1048576 : Int)) ∧ (↑xs.length : Int) ≤ (9223372036854775807 : Int)) ∧ ∀ (z : tItem.den), z ∈ xs → pLen z.snd.fst ≤ (9223372036854775807 : Int)) (.ite (decide ((if (1048576 : Int) - (↑xs.length : Int) < (0 : Int) then (-1 : Int) else szIt xs ((1048576 : Int) - (↑xs.length : Int))) < (0 : Int))) (.leaf [.lit true]) (.need (xs.length ≤ (16777216 : Nat) ∧ ∀ (z : tItem.den), z ∈ xs → pLen z.snd.fst ≤ (16777216 : Int)) (.need ((↑xs.length : Int) ≤ (9223372036854775807 : Int) ∧ ∀ (z : tItem.den), z ∈ xs → pLen z.snd.fst ≤ (9223372036854775807 : Int)) (.need (xs.length ≤ (16777216 : Nat) ∧ ∀ (z : tItem.den), z ∈ xs → pLen z.snd.fst ≤ (16777216 : Int)) (.need ((↑xs.length : Int) ≤ (9223372036854775807 : Int) ∧ ∀ (z : tItem.den), z ∈ xs → pLen z.snd.fst ≤ (9223372036854775807 : Int)) (.need ((↑(List.length (flatA xs).fst) : Int) ≤ (9223372036854775807 : Int) ∧ ∀ (z : tItem.den), z ∈ (flatA xs).fst → pLen z.snd.fst ≤ (9223372036854775807 : Int)) (.ite (!decide ((flatA xs).fst = (flatA xs).fst)) (.leaf [.lit false]) (.ite ((flatA xs).snd != (flatA xs).snd) (.leaf [.lit false]) (.need (xs.length ≤ (16777216 : Nat) ∧ ∀ (z : tItem.den), z ∈ xs → pLen z.snd.fst ≤ (16777216 : Int)) (.need ((↑xs.length : Int) ≤ (9223372036854775807 : Int) ∧ ∀ (z : tItem.den), z ∈ xs → pLen z.snd.fst ≤ (9223372036854775807 : Int)) (.ite (!decide (xs = xs)) (.leaf [.lit false]) (.need ((xs.length ≤ (16777216 : Nat) ∧ (0 : Int) ≤ (1 : Int) ∧ itEnd xs (1 : Int) ≤ (1000000000000 : Int)) ∧ ∀ (z : tItem.den), z ∈ xs → itN z ≤ (16777216 : Nat)) (.ite (decide (itEnd xs (1 : Int) < (0 : Int))) (.leaf [.lit false]) (.need ((↑(List.length (flatA xs).fst) : Int) ≤ (9223372036854775807 : Int) ∧ ∀ (z : tItem.den), z ∈ (flatA xs).fst → pLen z.snd.fst ≤ (9223372036854775807 : Int)) (.ite (!decide ((flatA xs).fst = (flatA xs).fst)) (.leaf [.lit false]) (.ite ((flatA xs).snd != (flatA xs).snd) (.leaf [.lit false]) (.need ((List.length (flatA xs).fst ≤ (16777216 : Nat) ∧ (0 : Int) ≤ (1 : Int) ∧ itEnd (flatA xs).fst (1 : Int) ≤ (1000000000000 : Int)) ∧ ∀ (z : tItem.den), z ∈ (flatA xs).fst → itN z ≤ (16777216 : Nat)) (.need (((itMark (flatA xs).fst (1 : Int)).length ≤ (16777216 : Nat) ∧ (0 : Int) ≤ (1 : Int) ∧ itEnd (itMark (flatA xs).fst (1 : Int)) (1 : Int) ≤ (1000000000000 : Int)) ∧ ∀ (z : tItem.den), z ∈ itMark (flatA xs).fst (1 : Int) → itN z ≤ (16777216 : Nat)) (.ite (decide (heldI (itMark (flatA xs).fst (1 : Int)) (1 : Int) < (0 : Int))) (.leaf [.lit false]) (.ite (heldI (itMark (flatA xs).fst (1 : Int)) (1 : Int) != itEnd (flatA xs).fst (1 : Int)) (.leaf [.lit false]) (.need (xs.length ≤ (16777216 : Nat) ∧ ∀ (z : tItem.den), z ∈ xs → pLen z.snd.fst ≤ (16777216 : Int)) (.need ((↑xs.length : Int) ≤ (9223372036854775807 : Int) ∧ ∀ (z : tItem.den), z ∈ xs → pLen z.snd.fst ≤ (9223372036854775807 : Int)) (.need ((↑(List.length (flatA xs).fst) : Int) ≤ (9223372036854775807 : Int) ∧ ∀ (z : tItem.den), z ∈ (flatA xs).fst → pLen z.snd.fst ≤ (9223372036854775807 : Int)) (.ite (!decide ((flatA xs).fst = (flatA xs).fst)) (.leaf [.lit false]) (.ite ((flatA xs).snd != (flatA xs).snd) (.leaf [.lit false]) (.need (((itMark (flatA xs).fst (1 : Int)).length ≤ (16777216 : Nat) ∧ (0 : Int) ≤ (1 : Int) ∧ itEnd (itMark (flatA xs).fst (1 : Int)) (1 : Int) ≤ (1000000000000 : Int)) ∧ ∀ (z : tItem.den), z ∈ itMark (flatA xs).fst (1 : Int) → itN z ≤ (16777216 : Nat)) (.ite (decide (heldI (itMark (flatA xs).fst (1 : Int)) (1 : Int) < (0 : Int))) (.leaf [.lit false]) (.ite (heldI (itMark (flatA xs).fst (1 : Int)) (1 : Int) != itEnd (flatA xs).fst (1 : Int)) (.leaf [.lit false]) (.leaf [.lit true]))))))))))))))))))))))))))))) := by kernel_rfl
  refine (congrArg (Tree.ok _) htree).mpr ?_
  clear htree
  have hN := flatA_N xs
  have hL := (flatA_gd xs).2
  have hE := itEnd_six (flatA xs).1 1 hN
  have hM := itMark_N (flatA xs).1 1 (fun z hz => Nat.le_trans (hN z hz) (by omega))
  have hE0 := itEnd_le (flatA xs).1 1
  have hml : (itMark (flatA xs).1 1).length ≤ 16777216 := by rw [itMark_length]; omega
  simp only [Tree.ok, tyd_inj, packAV, AV.same, AV.same.sameL, encV, encS, enc, inK, Nd.ok, List.headD_cons, List.cons_append, List.nil_append, List.append_nil, true_and, and_true, Bool.true_and, Bool.and_true, heldI_mark, itMark_length, mark_end]
  obtain ⟨hx, hqx⟩ := hp
  have he0 := itEnd_le xs 1
  by_cases h1 : (1048576 : Int) - (xs.length : Int) < 0
  · simp only [if_pos h1]
    repeat' first | apply And.intro | intro _
    all_goals first | omega | trivial | exact hqx _ ‹_› | (simp_all; done)
  · simp only [if_neg h1]
    have h2 := szIt_low xs (1048576 - (xs.length : Int)) (by omega)
    have h3 := szIt_bound xs (1048576 - (xs.length : Int)) (by omega)
    have h7 := itEnd_szF xs (1048576 - (xs.length : Int)) 1 (by omega)
    revert h2 h3 h7
    generalize szIt xs (1048576 - (xs.length : Int)) = s
    generalize itEnd xs 1 = e at *
    generalize flatA xs = V at *
    generalize itEnd V.1 1 = e2 at *
    intro h2 h3 h7
    by_cases h4 : s < 0
    · rw [decide_eq_true h4]
      repeat' first | apply And.intro | intro _
      all_goals first | omega | trivial | exact hqx _ ‹_› | (simp_all; done)
    · obtain ⟨h5, h6⟩ := h3 h4
      have h7 := h7 h4
      have h8 : ∀ z ∈ xs, itN z ≤ 16777216 := fun z hz => by
        have := pLen_itF (h6 z hz); omega
      have h9 : ∀ z ∈ V.1, pLen z.2.1 ≤ 6 := fun z hz => by
        have := hN z hz
        show (itN z : Int) ≤ 6
        omega
      repeat' first | apply And.intro | intro _
      all_goals first | omega | trivial | exact hml | exact hqx _ ‹_› | exact h8 _ ‹_› | exact hM _ ‹_› | exact Nat.le_trans (hN _ ‹_›) (by omega) | (have := h6 _ ‹_›; omega) | (have := h9 _ ‹_›; omega) | (simp_all; done) | (simp_all; omega)
def C_Jg_1 : FuncId → Option Ct := addC 4 ct_lawFlattenItems C_Jf
theorem C_Jg_1_ok : COk Try.prog C_Jg_1 := addC_ok C_Jf_ok sat_lawFlattenItems

def C_Jg : FuncId → Option Ct := C_Jg_1
theorem C_Jg_ok : COk Try.prog C_Jg := C_Jg_1_ok
end Go.Proofs.Ytemlpimibhijoaa
