/- The law FnExactFlattenItems returns true for every input; no condition. -/
import Derived.Test.YtemlpimibhijoaaJg
import Derived.Test.YtemlpimibhijoaaLawJ
set_option linter.unusedSimpArgs false
set_option linter.unusedVariables false
namespace Go.Proofs.Ytemlpimibhijoaa
open Go.ChangeShapes Go.WideShapes Go.ChangeAt Go.RowKit Go.Deep Sx
set_option maxRecDepth 100000 in
theorem fnExactFlattenItems_lifted (os : Os) (started : os.Started) (H : Type) (enc : TypeId × Value → H) :
    ReturnsInHanded {} Try.checked os 4 .any (Rows.fnExactFlattenItemsSpec.pre6 enc Try.prog Try.f4 Rows.fnExactFlattenItemsRow.domain false) (Rows.fnExactFlattenItemsSpec.post enc Try.prog Try.f4 false true false false) := by
  refine returnsInHanded_of_change (C := Try.checked) Try.own started (by kernel_rfl) Try.func4
    (ChangeSpec.witness6 (enc := enc) (C := Try.checked) false ⟨#[], #[.slice none 0 0], []⟩ 8 (by kernel_rfl) (by kernel_rfl) (by kernel_rfl) (by kernel_rfl)) ?_
  intro W base args ds gs before hval0 hW _ _
  have hval : ∀ (j : Nat) t v, Try.f4.params[j]? = some t → args[j]? = some v → Value.okWide Try.prog W .any base t v := hval0
  have hW' := hW
  obtain ⟨p, q, hA, hV, rfl, hfz, hnd⟩ := hW
  obtain ⟨x, hw, hd⟩ := open_all (P := Try.prog) (w := W) (l := [.v qItem]) (ts := Try.f4.params.toList) (vs := args.toList) (by kernel_rfl) (fun j t v a b => hval j t v (by simpa using a) (by simpa using b)) hA
  obtain ⟨xs, _⟩ := x
  refine (law_calls sat_lawFlattenItems ⟨len_le hw.1.1, fun z hz => len_le (hw.1.2 z hz).2.1.1⟩ hd rfl).mono fun e W' ⟨he, hb⟩ => ⟨_, he, ?_⟩
  exact law_post Try.laidOut (by rw [Try.params4]; exact of_decide_eq_true (by kernel_rfl)) Try.underlying4 rfl rfl (fun ds hl => by match ds, hl with | [_], _ => rfl) hW' hb

set_option maxHeartbeats 8000000 in
set_option maxRecDepth 100000 in
theorem fnExactFlattenItems_joined : joinedFacts Try.prog 4 Try.f4 Rows.fnExactFlattenItemsSpec Rows.fnExactFlattenItemsRow = true := by
  unfold joinedFacts
  simp only [Bool.and_eq_true]
  exact ⟨⟨⟨⟨⟨⟨⟨⟨⟨⟨⟨⟨⟨⟨⟨⟨⟨⟨⟨⟨⟨⟨⟨⟨⟨⟨⟨⟨⟨⟨⟨(by as_aux_lemma => kernel_rfl), PJ_laid⟩, PJ_maps⟩, (by as_aux_lemma => kernel_rfl)⟩, (by as_aux_lemma => kernel_rfl)⟩, (by as_aux_lemma => kernel_rfl)⟩, PJ_stops⟩, (by as_aux_lemma => kernel_rfl)⟩, PJ_knobs⟩, (by as_aux_lemma => kernel_rfl)⟩, (by as_aux_lemma => kernel_rfl)⟩, (by as_aux_lemma => kernel_rfl)⟩, (by as_aux_lemma => kernel_rfl)⟩, (by as_aux_lemma => kernel_rfl)⟩, (by as_aux_lemma => kernel_rfl)⟩, (by as_aux_lemma => kernel_rfl)⟩, (by as_aux_lemma => kernel_rfl)⟩, (by as_aux_lemma => kernel_rfl)⟩, (by as_aux_lemma => kernel_rfl)⟩, (by as_aux_lemma => kernel_rfl)⟩, (by as_aux_lemma => kernel_rfl)⟩, (by as_aux_lemma => kernel_rfl)⟩, PJ_keys⟩, (by as_aux_lemma => kernel_rfl)⟩, PJ_heard⟩, PJ_enter⟩, PJ_lifts⟩, PJ_make⟩, (by as_aux_lemma => kernel_rfl)⟩, (by as_aux_lemma => kernel_rfl)⟩, (by as_aux_lemma => kernel_rfl)⟩, (by as_aux_lemma => kernel_rfl)⟩

theorem fnExactFlattenItems_holds : Rows.FnExactFlattenItemsSaid :=
  OpenClaim.holds_of_wide 4 Try.f4 rfl rfl rfl rfl rfl rfl rfl ⟨rfl, rfl, rfl, rfl, rfl⟩ rfl rfl rfl rfl rfl (by as_aux_lemma => kernel_rfl) Try.func4 fnExactFlattenItems_joined
    (of_decide_eq_true (by as_aux_lemma => kernel_rfl)) (by unfold Func.isWrapper; first | (rw [if_pos (by decide +kernel)]; kernel_rfl) | (rw [if_neg (by decide +kernel)]; exact ⟨rfl, rfl⟩))
    (fun os started H enc _ => fnExactFlattenItems_lifted os started H enc)
#print axioms fnExactFlattenItems_holds
end Go.Proofs.Ytemlpimibhijoaa
