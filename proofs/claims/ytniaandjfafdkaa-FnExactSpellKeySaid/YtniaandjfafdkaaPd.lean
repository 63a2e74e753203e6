/- The law on SpellKey, by the evaluator. No condition. -/
import Derived.Test.YtniaandjfafdkaaPcL
set_option linter.unusedSimpArgs false
set_option linter.unusedVariables false
namespace Go.Proofs.Ytniaandjfafdkaa
open Go.RowKit Sx
set_option maxRecDepth 100000
theorem spell_eq (key near : Int) : spellI key near = spellS key near := by
  unfold spellI spellS
  split
  · rename_i h
    have g1 := (inB_iff _ _ _).1 h.1
    have g2 := (inB_iff _ _ _).1 h.2
    have h1 := spAgree_all key near g1.1 g1.2 g2.1 g2.2
    simp only [spAgree, Bool.and_eq_true, beq_iff_eq] at h1
    rw [h1.1, h1.2.1, h1.2.2]
  · rfl
def ct_lawSpellKey : Ct := ctOf [.v (.int .i64), .v (.int .i64)] (fun _ => .tt) (fun ((key : Int), (near : Int), _) => .bool true)
set_option maxHeartbeats 1000000 in
theorem sat_lawSpellKey : Sat Try.prog 9 ct_lawSpellKey := by
  refine sat_typed (C := C_Pc) (L := noL) (wr := false) mixedOk Try.func9 C_Pc_ok (loops0 (by kernel_rfl)) (fun _ => by first | rfl | (simp [ownsOf, ownsOf.ownsL, enc, encV, encS])) fun x hp => ?_
  obtain ⟨(key : Int), (near : Int), _⟩ := x
  clear hp
  have htree : exFunc Try.prog C_Pc false noL Try.f9 (encA [.v (.int .i64), .v (.int .i64)] (key, near, ())) = .ite (!decide ((spellI key near).fst.fst = (spellS key near).fst.fst ∧ (spellI key near).fst.snd.fst = (spellS key near).fst.snd.fst ∧ (spellI key near).fst.snd.snd = (spellS key near).fst.snd.snd)) (.leaf [.lit false]) (.ite ((spellI key near).snd != (spellS key near).snd) (.leaf [.lit false]) (.leaf [.lit true])) := by kernel_rfl
  refine (congrArg (Tree.ok _) htree).mpr ?_
  clear htree
  have h := spell_eq key near
  simp only [Tree.ok, packAV, AV.same, AV.same.sameL, encV, encS, enc, inK, Nd.ok, List.headD_cons, List.cons_append, List.nil_append, List.append_nil, true_and, and_true, Bool.true_and, Bool.and_true, h]
  grind
def C_Pd_1 : FuncId → Option Ct := addC 9 ct_lawSpellKey C_Pc
theorem C_Pd_1_ok : COk Try.prog C_Pd_1 := addC_ok C_Pc_ok sat_lawSpellKey

def C_Pd : FuncId → Option Ct := C_Pd_1
theorem C_Pd_ok : COk Try.prog C_Pd := C_Pd_1_ok
end Go.Proofs.Ytniaandjfafdkaa
