/- The law FnExactReadTuning returns true for every input; the library's tables and errors lie as its text lays them. -/
import Derived.Test.YtkeckmdmmbeaiaaDoorRr
import Derived.Test.YtkeckmdmmbeaiaaDoorLawD7
set_option linter.unusedSimpArgs false
set_option linter.unusedVariables false
namespace Go.Proofs.YtkeckmdmmbeaiaaDoor
open Go.ChangeShapes Go.WideShapes Go.ChangeAt Go.RowKit Go.Deep Sx
set_option maxRecDepth 100000 in
theorem fnExactReadTuning_lifted (os : Os) (started : os.Started) (H : Type) (enc : TypeId × Value → H) :
    ReturnsInHanded {} Tryd.checked os 10 .any (fun w args => (Rows.fnExactReadTuningSpec.pre enc Tryd.prog Tryd.f10 Rows.fnExactReadTuningRow.domain false w args ∧ laidMet Tryd.prog Rows.fnExactReadTuningRow.laid w) ∧ sizedMet enc Tryd.prog Tryd.f10 (OpenSpec.ofChange Rows.fnExactReadTuningSpec) false w args) (Rows.fnExactReadTuningSpec.post enc Tryd.prog Tryd.f10 false true false false) := by
  refine returns_laid (C := Tryd.checked) (X := (fun w _ => laidMet Tryd.prog laidT w)) (fun _ _ _ hh h => h.of_heap hh) Tryd.own started (by kernel_rfl) Tryd.func10
    (ChangeSpec.witness_at (enc := enc) (C := Tryd.checked) (os := os) (X := (fun w _ => laidMet Tryd.prog laidT w)) false (laidW os) #[.string ⟨#[]⟩] 8 rfl (by kernel_rfl) (by kernel_rfl) (by kernel_rfl) (by kernel_rfl) (by kernel_rfl) (laidW_met os _)) ?_
  intro W base args ds gs before hval0 hW hL hsh
  have hval : ∀ (j : Nat) t v, Tryd.f10.params[j]? = some t → args[j]? = some v → Value.okWide Tryd.prog W .any base t v := hval0
  have hW' := hW
  obtain ⟨p, q, hA, hV, rfl, hfz, hnd⟩ := hW
  obtain ⟨x, hw, hd⟩ := open_all (P := Tryd.prog) (w := W) (l := [.v .str]) (ts := Tryd.f10.params.toList) (vs := args.toList) (by kernel_rfl) (fun j t v a b => hval j t v (by simpa using a) (by simpa using b)) hA
  obtain ⟨s, _⟩ := x
  refine (law_callsD sat_lawReadTuning hL hsh trivial hd rfl).mono fun e W' ⟨he, hb⟩ => ⟨_, he, ?_⟩
  exact law_post Tryd.laidOut (by rw [Tryd.params10]; exact of_decide_eq_true (by kernel_rfl)) Tryd.underlying4 rfl rfl (fun ds hl => by match ds, hl with | [_], _ => rfl) hW' hb

set_option maxHeartbeats 8000000 in
set_option maxRecDepth 100000 in
theorem fnExactReadTuning_joined : joinedFacts Tryd.prog 10 Tryd.f10 Rows.fnExactReadTuningSpec Rows.fnExactReadTuningRow = true := by
  unfold joinedFacts
  simp only [Bool.and_eq_true]
  exact ⟨⟨⟨⟨⟨⟨⟨⟨⟨⟨⟨⟨⟨⟨⟨⟨⟨⟨⟨⟨⟨⟨⟨⟨⟨⟨⟨⟨⟨⟨⟨(by as_aux_lemma => kernel_rfl), PJ_laid⟩, PJ_maps⟩, (by as_aux_lemma => kernel_rfl)⟩, (by as_aux_lemma => kernel_rfl)⟩, (by as_aux_lemma => kernel_rfl)⟩, PJ_stops⟩, (by as_aux_lemma => kernel_rfl)⟩, PJ_knobs⟩, (by as_aux_lemma => kernel_rfl)⟩, (by as_aux_lemma => kernel_rfl)⟩, (by as_aux_lemma => kernel_rfl)⟩, (by as_aux_lemma => kernel_rfl)⟩, (by as_aux_lemma => kernel_rfl)⟩, (by as_aux_lemma => kernel_rfl)⟩, (by as_aux_lemma => kernel_rfl)⟩, (by as_aux_lemma => kernel_rfl)⟩, (by as_aux_lemma => kernel_rfl)⟩, (by as_aux_lemma => kernel_rfl)⟩, (by as_aux_lemma => kernel_rfl)⟩, (by as_aux_lemma => kernel_rfl)⟩, (by as_aux_lemma => kernel_rfl)⟩, PJ_keys⟩, (by as_aux_lemma => kernel_rfl)⟩, PJ_heard⟩, PJ_enter⟩, PJ_lifts⟩, PJ_make⟩, (by as_aux_lemma => kernel_rfl)⟩, (by as_aux_lemma => kernel_rfl)⟩, (by as_aux_lemma => kernel_rfl)⟩, (by as_aux_lemma => kernel_rfl)⟩

theorem fnExactReadTuning_row : Rows.FnExactReadTuningSaid :=
  OpenClaim.holds_of_wide 10 Tryd.f10 rfl rfl rfl rfl rfl rfl rfl ⟨rfl, rfl, rfl, rfl, rfl⟩ rfl rfl rfl rfl rfl (by as_aux_lemma => kernel_rfl) Tryd.func10 fnExactReadTuning_joined
    (of_decide_eq_true (by as_aux_lemma => kernel_rfl)) (by unfold Func.isWrapper; first | (rw [if_pos (by decide +kernel)]; kernel_rfl) | (rw [if_neg (by decide +kernel)]; exact ⟨rfl, rfl⟩))
    (fun os started H enc _ => fnExactReadTuning_lifted os started H enc)
theorem fnExactReadTuning_holds : Rows.FnExactReadTuningCardSaid :=
  Claim7.holds_tied_plain_at .later [] [.data, .data, .data, .data, .sentinel, .sentinel, .pinned] true (true, "8af840decd32bdc1ad548c06a5463897860d5aceb15ba7733476607b4f1da760") true
    fnExactReadTuning_row (fun _ h => by cases h) (by kernel_rfl) (fun _ h => by cases h) fnExactReadTuning_row_tie rfl ⟨rfl, rfl⟩ (by kernel_rfl) rfl
    (fun f fn hf hfn => by
      obtain rfl : f = 10 := Option.some.inj ((show Tryd.prog.funcNamed Rows.fnExactReadTuningRow.func = some 10 by kernel_rfl).symm.trans hf) |>.symm
      obtain rfl : fn = Tryd.f10 := (Option.some.inj (Tryd.func10.symm.trans hfn)).symm
      refine ⟨by kernel_rfl, fun j t ht => ?_⟩
      have hall : (Tryd.f10.params.toList.all fun t => Tryd.prog.wantsStandIn t == false) = true := by kernel_rfl
      have hm : t ∈ Tryd.f10.params.toList := by rw [← Array.mem_def]; exact Array.mem_of_getElem? ht
      exact (show Tryd.prog.wantsStandIn t = false from beq_iff_eq.1 (List.all_eq_true.1 hall t hm)))
    (by kernel_rfl)
#print axioms fnExactReadTuning_holds
end Go.Proofs.YtkeckmdmmbeaiaaDoor
