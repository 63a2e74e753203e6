/- The law FnSpelled returns true for every input; the library's tables lie as its text lays them. -/
import Derived.Test.YtkeckmdmmbeaiaaDoorTp
import Derived.Test.YtkeckmdmmbeaiaaDoorLawD5
set_option linter.unusedSimpArgs false
set_option linter.unusedVariables false
namespace Go.Proofs.YtkeckmdmmbeaiaaDoor
open Go.ChangeShapes Go.WideShapes Go.ChangeAt Go.RowKit Go.Deep Sx
set_option maxRecDepth 100000 in
theorem fnSpelled_lifted (os : Os) (started : os.Started) (H : Type) (enc : TypeId × Value → H) :
    ReturnsInHanded {} Tryd.checked os 11 .any (fun w args => (Rows.fnSpelledSpec.pre enc Tryd.prog Tryd.f11 Rows.fnSpelledRow.domain false w args ∧ laidMet Tryd.prog Rows.fnSpelledRow.laid w) ∧ sizedMet enc Tryd.prog Tryd.f11 (OpenSpec.ofChange Rows.fnSpelledSpec) false w args) (Rows.fnSpelledSpec.post enc Tryd.prog Tryd.f11 false true false false) := by
  refine returns_laid (C := Tryd.checked) (X := (fun w _ => laidMet Tryd.prog laidT w)) (fun _ _ _ hh h => h.of_heap hh) Tryd.own started (by kernel_rfl) Tryd.func11
    (ChangeSpec.witness_at (enc := enc) (C := Tryd.checked) (os := os) (X := (fun w _ => laidMet Tryd.prog laidT w)) false (laidW os) #[.slice none 0 0 , .slice none 0 0] 8 rfl (by kernel_rfl) (by kernel_rfl) (by kernel_rfl) (by kernel_rfl) (by kernel_rfl) (laidW_met os _)) ?_
  intro W base args ds gs before hval0 hW hL hsh
  have hval : ∀ (j : Nat) t v, Tryd.f11.params[j]? = some t → args[j]? = some v → Value.okWide Tryd.prog W .any base t v := hval0
  have hW' := hW
  obtain ⟨p, q, hA, hV, rfl, hfz, hnd⟩ := hW
  obtain ⟨x, hw, hd⟩ := open_all (P := Tryd.prog) (w := W) (l := [.v (.seq (.int .u8)), .v (.seq (.int .u8))]) (ts := Tryd.f11.params.toList) (vs := args.toList) (by kernel_rfl) (fun j t v a b => hval j t v (by simpa using a) (by simpa using b)) hA
  obtain ⟨code, more, _⟩ := x
  refine (law_callsD sat_lawSpelled hL hsh ⟨fun z hz => hw.1.2 z hz, fun z hz => hw.2.1.2 z hz⟩ hd rfl).mono fun e W' ⟨he, hb⟩ => ⟨_, he, ?_⟩
  exact law_post Tryd.laidOut (by rw [Tryd.params11]; exact of_decide_eq_true (by kernel_rfl)) Tryd.underlying4 rfl rfl (fun ds hl => by match ds, hl with | [_, _], _ => rfl) hW' hb

set_option maxHeartbeats 8000000 in
set_option maxRecDepth 100000 in
theorem fnSpelled_joined : joinedFacts Tryd.prog 11 Tryd.f11 Rows.fnSpelledSpec Rows.fnSpelledRow = true := by
  unfold joinedFacts
  simp only [Bool.and_eq_true]
  exact ⟨⟨⟨⟨⟨⟨⟨⟨⟨⟨⟨⟨⟨⟨⟨⟨⟨⟨⟨⟨⟨⟨⟨⟨⟨⟨⟨⟨⟨⟨⟨(by as_aux_lemma => kernel_rfl), PJ_laid⟩, PJ_maps⟩, (by as_aux_lemma => kernel_rfl)⟩, (by as_aux_lemma => kernel_rfl)⟩, (by as_aux_lemma => kernel_rfl)⟩, PJ_stops⟩, (by as_aux_lemma => kernel_rfl)⟩, PJ_knobs⟩, (by as_aux_lemma => kernel_rfl)⟩, (by as_aux_lemma => kernel_rfl)⟩, (by as_aux_lemma => kernel_rfl)⟩, (by as_aux_lemma => kernel_rfl)⟩, (by as_aux_lemma => kernel_rfl)⟩, (by as_aux_lemma => kernel_rfl)⟩, (by as_aux_lemma => kernel_rfl)⟩, (by as_aux_lemma => kernel_rfl)⟩, (by as_aux_lemma => kernel_rfl)⟩, (by as_aux_lemma => kernel_rfl)⟩, (by as_aux_lemma => kernel_rfl)⟩, (by as_aux_lemma => kernel_rfl)⟩, (by as_aux_lemma => kernel_rfl)⟩, PJ_keys⟩, (by as_aux_lemma => kernel_rfl)⟩, PJ_heard⟩, PJ_enter⟩, PJ_lifts⟩, PJ_make⟩, (by as_aux_lemma => kernel_rfl)⟩, (by as_aux_lemma => kernel_rfl)⟩, (by as_aux_lemma => kernel_rfl)⟩, (by as_aux_lemma => kernel_rfl)⟩

theorem fnSpelled_row : Rows.FnSpelledSaid :=
  OpenClaim.holds_of_wide 11 Tryd.f11 rfl rfl rfl rfl rfl rfl rfl ⟨rfl, rfl, rfl, rfl, rfl⟩ rfl rfl rfl rfl rfl (by as_aux_lemma => kernel_rfl) Tryd.func11 fnSpelled_joined
    (of_decide_eq_true (by as_aux_lemma => kernel_rfl)) (by unfold Func.isWrapper; first | (rw [if_pos (by decide +kernel)]; kernel_rfl) | (rw [if_neg (by decide +kernel)]; exact ⟨rfl, rfl⟩))
    (fun os started H enc _ => fnSpelled_lifted os started H enc)
theorem fnSpelled_holds : Rows.FnSpelledCardSaid :=
  Claim7.holds_tied_plain_at .later [] [.data, .data, .data, .data, .pinned] true (true, "8af840decd32bdc1ad548c06a5463897860d5aceb15ba7733476607b4f1da760") true
    fnSpelled_row (fun _ h => by cases h) (by kernel_rfl) (fun _ h => by cases h) fnSpelled_row_tie rfl ⟨rfl, rfl⟩ (by kernel_rfl) rfl
    (fun f fn hf hfn => by
      obtain rfl : f = 11 := Option.some.inj ((show Tryd.prog.funcNamed Rows.fnSpelledRow.func = some 11 by kernel_rfl).symm.trans hf) |>.symm
      obtain rfl : fn = Tryd.f11 := (Option.some.inj (Tryd.func11.symm.trans hfn)).symm
      refine ⟨by kernel_rfl, fun j t ht => ?_⟩
      have hall : (Tryd.f11.params.toList.all fun t => Tryd.prog.wantsStandIn t == false) = true := by kernel_rfl
      have hm : t ∈ Tryd.f11.params.toList := by rw [← Array.mem_def]; exact Array.mem_of_getElem? ht
      exact (show Tryd.prog.wantsStandIn t = false from beq_iff_eq.1 (List.all_eq_true.1 hall t hm)))
    (by kernel_rfl)
#print axioms fnSpelled_holds
end Go.Proofs.YtkeckmdmmbeaiaaDoor
