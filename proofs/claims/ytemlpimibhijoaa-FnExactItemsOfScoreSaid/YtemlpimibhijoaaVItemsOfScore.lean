/- The law FnExactItemsOfScore returns true for every input; no condition. -/
import Derived.Test.YtemlpimibhijoaaJn
import Derived.Test.YtemlpimibhijoaaLawJ
set_option linter.unusedSimpArgs false
set_option linter.unusedVariables false
namespace Go.Proofs.Ytemlpimibhijoaa
open Go.ChangeShapes Go.WideShapes Go.ChangeAt Go.RowKit Go.Deep Sx
set_option maxRecDepth 100000 in
theorem fnExactItemsOfScore_lifted (os : Os) (started : os.Started) (H : Type) (enc : TypeId × Value → H) :
    ReturnsInHanded {} Try.checked os 6 .any (Rows.fnExactItemsOfScoreSpec.pre6 enc Try.prog Try.f6 Rows.fnExactItemsOfScoreRow.domain false) (Rows.fnExactItemsOfScoreSpec.post enc Try.prog Try.f6 false true false false) := by
  refine returnsInHanded_of_change (C := Try.checked) Try.own started (by kernel_rfl) Try.func6
    (ChangeSpec.witness6 (enc := enc) (C := Try.checked) false ⟨#[], #[.agg #[.slice none 0 0] , .int .i64 0], []⟩ 8 (by kernel_rfl) (by kernel_rfl) (by kernel_rfl) (by kernel_rfl)) ?_
  intro W base args ds gs before hval0 hW _ _
  have hval : ∀ (j : Nat) t v, Try.f6.params[j]? = some t → args[j]? = some v → Value.okWide Try.prog W .any base t v := hval0
  have hW' := hW
  obtain ⟨p, q, hA, hV, rfl, hfz, hnd⟩ := hW
  obtain ⟨x, hw, hd⟩ := open_all (P := Try.prog) (w := W) (l := [.s qNote, .v (.int .i64)]) (ts := Try.f6.params.toList) (vs := args.toList) (by kernel_rfl) (fun j t v a b => hval j t v (by simpa using a) (by simpa using b)) hA
  obtain ⟨xs, v, _⟩ := x
  refine (law_calls sat_lawItemsOfScore (show ((xs : List tNote.den).length : Int) ≤ 9223372036854775807 from len_le hw.1.1) hd rfl).mono fun e W' ⟨he, hb⟩ => ⟨_, he, ?_⟩
  exact law_post Try.laidOut (by rw [Try.params6]; exact of_decide_eq_true (by kernel_rfl)) Try.underlying4 rfl rfl (fun ds hl => by match ds, hl with | [_, _], _ => rfl) hW' hb

set_option maxHeartbeats 8000000 in
set_option maxRecDepth 100000 in
theorem fnExactItemsOfScore_joined : joinedFacts Try.prog 6 Try.f6 Rows.fnExactItemsOfScoreSpec Rows.fnExactItemsOfScoreRow = true := by
  unfold joinedFacts
  simp only [Bool.and_eq_true]
  exact ⟨⟨⟨⟨⟨⟨⟨⟨⟨⟨⟨⟨⟨⟨⟨⟨⟨⟨⟨⟨⟨⟨⟨⟨⟨⟨⟨⟨⟨⟨⟨(by as_aux_lemma => kernel_rfl), PJ_laid⟩, PJ_maps⟩, (by as_aux_lemma => kernel_rfl)⟩, (by as_aux_lemma => kernel_rfl)⟩, (by as_aux_lemma => kernel_rfl)⟩, PJ_stops⟩, (by as_aux_lemma => kernel_rfl)⟩, PJ_knobs⟩, (by as_aux_lemma => kernel_rfl)⟩, (by as_aux_lemma => kernel_rfl)⟩, (by as_aux_lemma => kernel_rfl)⟩, (by as_aux_lemma => kernel_rfl)⟩, (by as_aux_lemma => kernel_rfl)⟩, (by as_aux_lemma => kernel_rfl)⟩, (by as_aux_lemma => kernel_rfl)⟩, (by as_aux_lemma => kernel_rfl)⟩, (by as_aux_lemma => kernel_rfl)⟩, (by as_aux_lemma => kernel_rfl)⟩, (by as_aux_lemma => kernel_rfl)⟩, (by as_aux_lemma => kernel_rfl)⟩, (by as_aux_lemma => kernel_rfl)⟩, PJ_keys⟩, (by as_aux_lemma => kernel_rfl)⟩, PJ_heard⟩, PJ_enter⟩, PJ_lifts⟩, PJ_make⟩, (by as_aux_lemma => kernel_rfl)⟩, (by as_aux_lemma => kernel_rfl)⟩, (by as_aux_lemma => kernel_rfl)⟩, (by as_aux_lemma => kernel_rfl)⟩

theorem fnExactItemsOfScore_holds : Rows.FnExactItemsOfScoreSaid :=
  OpenClaim.holds_of_wide 6 Try.f6 rfl rfl rfl rfl rfl rfl rfl ⟨rfl, rfl, rfl, rfl, rfl⟩ rfl rfl rfl rfl rfl (by as_aux_lemma => kernel_rfl) Try.func6 fnExactItemsOfScore_joined
    (of_decide_eq_true (by as_aux_lemma => kernel_rfl)) (by unfold Func.isWrapper; first | (rw [if_pos (by decide +kernel)]; kernel_rfl) | (rw [if_neg (by decide +kernel)]; exact ⟨rfl, rfl⟩))
    (fun os started H enc _ => fnExactItemsOfScore_lifted os started H enc)
#print axioms fnExactItemsOfScore_holds
end Go.Proofs.Ytemlpimibhijoaa
