/- The law FnExactIntervalBetween returns true for every input; no condition. -/
import Derived.Test.YtniaandjfafdkaaPitLb
import Derived.Test.YtniaandjfafdkaaLawB
namespace Go.Proofs.Ytniaandjfafdkaa
open Go.ChangeShapes Go.WideShapes Go.ChangeAt Go.RowKit Go.Deep
set_option maxRecDepth 100000 in
theorem fnExactIntervalBetween_lifted (os : Os) (started : os.Started) (H : Type) (enc : TypeId × Value → H) :
    ReturnsInHanded {} Try.checked os 8 .any (Rows.fnExactIntervalBetweenSpec.pre6 enc Try.prog Try.f8 Rows.fnExactIntervalBetweenRow.domain false) (Rows.fnExactIntervalBetweenSpec.post enc Try.prog Try.f8 false true false false) := by
  refine returnsInHanded_of_change (C := Try.checked) Try.own started (by kernel_rfl) Try.func8
    (ChangeSpec.witness6 (enc := enc) (C := Try.checked) false ⟨#[], #[.agg #[.int .i64 0, .int .i64 0, .int .i64 0], .agg #[.int .i64 0, .int .i64 0, .int .i64 0]], []⟩ 8 (by kernel_rfl) (by kernel_rfl) (by kernel_rfl) (by kernel_rfl)) ?_
  intro W base args ds gs before hval0 hW _ _
  have hval : ∀ (j : Nat) t v, Try.f8.params[j]? = some t → args[j]? = some v → Value.okWide Try.prog W .any base t v := hval0
  have hW' := hW
  obtain ⟨p, q, hA0, hV, rfl, hfz, hnd⟩ := hW
  have hA : DataW.TrodAll enc Try.prog W 0 (fun _ => true) true Try.f8.params.toList args.toList ds p := hA0
  rw [Try.params8] at hA hval
  obtain ⟨v0, v1, d0, d1, p0, p1, rfl, rfl, rfl, h0, h1⟩ := trodAll_two hA
  obtain ⟨x0_0, x0_1, x0_2, rfl, b0⟩ := open_lPitch (hval 0 _ _ rfl rfl) h0
  obtain ⟨x1_0, x1_1, x1_2, rfl, b1⟩ := open_lPitch (hval 1 _ _ rfl rfl) h1
  refine (lawIntervalBetween x0_0 x0_1 x0_2 x1_0 x1_1 x1_2 W).mono fun e W' ⟨he, hb⟩ => ⟨_, he, ?_⟩
  exact law_post Try.laidOut (by rw [Try.params8]; exact of_decide_eq_true (by kernel_rfl)) Try.underlying4 rfl rfl (fun ds hl => by match ds, hl with | [_, _], _ => rfl) hW' hb

theorem fnExactIntervalBetween_holds : Rows.FnExactIntervalBetweenSaid :=
  OpenClaim.holds_of_wide 8 Try.f8 rfl rfl rfl rfl rfl rfl rfl ⟨rfl, rfl, rfl, rfl, rfl⟩ rfl rfl rfl rfl rfl (by kernel_rfl) Try.func8 (by kernel_rfl)
    (of_decide_eq_true (by kernel_rfl)) (by unfold Func.isWrapper; first | (rw [if_pos (by decide +kernel)]; kernel_rfl) | (rw [if_neg (by decide +kernel)]; exact ⟨rfl, rfl⟩))
    (fun os started H enc _ => fnExactIntervalBetween_lifted os started H enc)
#print axioms fnExactIntervalBetween_holds
end Go.Proofs.Ytniaandjfafdkaa
