/- The law FnTunings returns true for every input; the library's tables and errors lie as its text lays them. -/
import Derived.Test.YtkeckmdmmbeaiaaGreatDoorMTb
import Derived.Test.YtkeckmdmmbeaiaaGreatDoorLawD7
set_option linter.unusedSimpArgs false
set_option linter.unusedVariables false
namespace Go.Proofs.YtkeckmdmmbeaiaaGreatDoor
open Go.ChangeShapes Go.WideShapes Go.ChangeAt Go.RowKit Go.Deep Sx
set_option maxRecDepth 100000 in
theorem fnTunings_lifted (os : Os) (started : os.Started) (H : Type) (enc : TypeId × Value → H) :
    ReturnsInHanded {} Tryz.checked os 5 .any (fun w args => (Rows.fnTuningsSpec.pre enc Tryz.prog Tryz.f5 Rows.fnTuningsRow.domain false w args ∧ laidMet Tryz.prog Rows.fnTuningsRow.laid w) ∧ sizedMet enc Tryz.prog Tryz.f5 (OpenSpec.ofChange Rows.fnTuningsSpec) false w args) (Rows.fnTuningsSpec.post enc Tryz.prog Tryz.f5 false true false false) := by
  refine returns_laid (C := Tryz.checked) (X := (fun w _ => laidMet Tryz.prog laidT w)) (fun _ _ _ hh h => h.of_heap hh) Tryz.own started (by kernel_rfl) Tryz.func5
    (ChangeSpec.witness_at (enc := enc) (C := Tryz.checked) (os := os) (X := (fun w _ => laidMet Tryz.prog laidT w)) false (laidW os) #[.slice none 0 0 , .slice none 0 0] 8 rfl (by kernel_rfl) (by kernel_rfl) (by kernel_rfl) (by kernel_rfl) (by kernel_rfl) (laidW_met os _)) ?_
  intro W base args ds gs before hval0 hW hL hsh
  have hval : ∀ (j : Nat) t v, Tryz.f5.params[j]? = some t → args[j]? = some v → Value.okWide Tryz.prog W .any base t v := hval0
  have hW' := hW
  obtain ⟨p, q, hA, hV, rfl, hfz, hnd⟩ := hW
  obtain ⟨x, hw, hd⟩ := open_all (P := Tryz.prog) (w := W) (l := [.v (.seq (.int .u8)), .v (.seq (.int .u8))]) (ts := Tryz.f5.params.toList) (vs := args.toList) (by kernel_rfl) (fun j t v a b => hval j t v (by simpa using a) (by simpa using b)) hA
  obtain ⟨code, more, _⟩ := x
  refine (law_callsD sat_lawTunings hL hsh ⟨fun z hz => hw.1.2 z hz, fun z hz => hw.2.1.2 z hz⟩ hd rfl).mono fun e W' ⟨he, hb⟩ => ⟨_, he, ?_⟩
  exact law_post Tryz.laidOut (by rw [Tryz.params5]; exact of_decide_eq_true (by kernel_rfl)) Tryz.underlying4 rfl rfl (fun ds hl => by match ds, hl with | [_, _], _ => rfl) hW' hb

set_option maxHeartbeats 8000000 in
set_option maxRecDepth 100000 in
theorem fnTunings_joined : joinedFacts Tryz.prog 5 Tryz.f5 Rows.fnTuningsSpec Rows.fnTuningsRow = true := by
  unfold joinedFacts
  simp only [Bool.and_eq_true]
  exact ⟨⟨⟨⟨⟨⟨⟨⟨⟨⟨⟨⟨⟨⟨⟨⟨⟨⟨⟨⟨⟨⟨⟨⟨⟨⟨⟨⟨⟨⟨⟨(by as_aux_lemma => kernel_rfl), PJ_laid⟩, PJ_maps⟩, (by as_aux_lemma => kernel_rfl)⟩, (by as_aux_lemma => kernel_rfl)⟩, (by as_aux_lemma => kernel_rfl)⟩, PJ_stops⟩, (by as_aux_lemma => kernel_rfl)⟩, PJ_knobs⟩, (by as_aux_lemma => kernel_rfl)⟩, (by as_aux_lemma => kernel_rfl)⟩, (by as_aux_lemma => kernel_rfl)⟩, (by as_aux_lemma => kernel_rfl)⟩, (by as_aux_lemma => kernel_rfl)⟩, (by as_aux_lemma => kernel_rfl)⟩, (by as_aux_lemma => kernel_rfl)⟩, (by as_aux_lemma => kernel_rfl)⟩, (by as_aux_lemma => kernel_rfl)⟩, (by as_aux_lemma => kernel_rfl)⟩, (by as_aux_lemma => kernel_rfl)⟩, (by as_aux_lemma => kernel_rfl)⟩, (by as_aux_lemma => kernel_rfl)⟩, PJ_keys⟩, (by as_aux_lemma => kernel_rfl)⟩, PJ_heard⟩, PJ_enter⟩, PJ_lifts⟩, PJ_make⟩, (by as_aux_lemma => kernel_rfl)⟩, (by as_aux_lemma => kernel_rfl)⟩, (by as_aux_lemma => kernel_rfl)⟩, (by as_aux_lemma => kernel_rfl)⟩

theorem fnTunings_row : Rows.FnTuningsSaid :=
  OpenClaim.holds_of_wide 5 Tryz.f5 rfl rfl rfl rfl rfl rfl rfl ⟨rfl, rfl, rfl, rfl, rfl⟩ rfl rfl rfl rfl rfl (by as_aux_lemma => kernel_rfl) Tryz.func5 fnTunings_joined
    (of_decide_eq_true (by as_aux_lemma => kernel_rfl)) (by unfold Func.isWrapper; first | (rw [if_pos (by decide +kernel)]; kernel_rfl) | (rw [if_neg (by decide +kernel)]; exact ⟨rfl, rfl⟩))
    (fun os started H enc _ => fnTunings_lifted os started H enc)
theorem fnTunings_holds : Rows.FnTuningsCardSaid :=
  Claim7.holds_tied_plain_at .later [] [.data, .data, .data, .data, .sentinel, .sentinel, .pinned] true (true, "ee694c6f5b19fb0f24e565a2946d8312004e9f0b8341d0d7fb5889161786d4f4") true
    fnTunings_row (fun _ h => by cases h) (by kernel_rfl) (fun _ h => by cases h) fnTunings_row_tie rfl ⟨rfl, rfl⟩ (by kernel_rfl) rfl
    (fun f fn hf hfn => by
      obtain rfl : f = 5 := Option.some.inj ((show Tryz.prog.funcNamed Rows.fnTuningsRow.func = some 5 by kernel_rfl).symm.trans hf) |>.symm
      obtain rfl : fn = Tryz.f5 := (Option.some.inj (Tryz.func5.symm.trans hfn)).symm
      refine ⟨by kernel_rfl, fun j t ht => ?_⟩
      have hall : (Tryz.f5.params.toList.all fun t => Tryz.prog.wantsStandIn t == false) = true := by kernel_rfl
      have hm : t ∈ Tryz.f5.params.toList := by rw [← Array.mem_def]; exact Array.mem_of_getElem? ht
      exact (show Tryz.prog.wantsStandIn t = false from beq_iff_eq.1 (List.all_eq_true.1 hall t hm)))
    (by kernel_rfl)
#print axioms fnTunings_holds
end Go.Proofs.YtkeckmdmmbeaiaaGreatDoor
