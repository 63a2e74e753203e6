/- The law on quantized scores. Conditions: as each says. -/
import Derived.Test.YtjgjcggecikdpaaSq
set_option linter.unusedSimpArgs false
set_option linter.unusedVariables false
namespace Go.Proofs.Ytjgjcggecikdpaa
open Go.RowKit Sx
set_option maxRecDepth 100000
set_option maxHeartbeats 1000000
theorem quS_len (xs : List tNote.den) (g : Fr) : (quS xs g).1.length ≤ 60 := by
  unfold quS
  split
  · rename_i h
    have hl := (score_notes h.1).1
    split
    · simp
    · split
      · have := cptL_len (srt ltN (xs.map (quN g)))
        rw [srt_len, List.length_map] at this
        simp only
        omega
      · simp
  · simp
def ct_lawQuantizeScore : Ct := ctOf [.s qNote, .s tFrac] (fun ((xs : List tNote.den), (v : tFrac.den), _) => .p ((xs.length : Int) ≤ 9223372036854775807)) (fun ((xs : List tNote.den), (v : tFrac.den), _) => .bool true)
set_option maxHeartbeats 1000000 in
theorem sat_lawQuantizeScore : Sat Try.prog 10 ct_lawQuantizeScore := by
  refine sat_typed (C := C_Sq) (L := noL) (wr := false) mixedOk Try.func10 C_Sq_ok (loops0 (by kernel_rfl)) (fun _ => by first | rfl | (simp [ownsOf, ownsOf.ownsL, enc, encV, encS])) fun x hp => ?_
  obtain ⟨(xs : List tNote.den), (v : tFrac.den), _⟩ := x
  replace hp : (xs.length : Int) ≤ 9223372036854775807 := hp
  have htree : exFunc Try.prog C_Sq false noL Try.f10 (encA [.s qNote, .s tFrac] (xs, v, ())) = .need (((0 : Int) ≤ (1048576 : Int) ∧ (1048576 : Int) ≤ (1048576 : Int)) ∧ (↑xs.length : Int) ≤ (9223372036854775807 : Int)) (.ite (decide ((if (1048576 : Int) - (↑xs.length : Int) < (0 : Int) then (-1 : Int) else (1048576 : Int) - (↑xs.length : Int)) < (0 : Int))) (.leaf [.lit true]) (.need (xs.length ≤ (16777216 : Nat)) (.need ((↑xs.length : Int) ≤ (9223372036854775807 : Int)) (.need (xs.length ≤ (16777216 : Nat)) (.need ((↑xs.length : Int) ≤ (9223372036854775807 : Int)) (.need ((↑(quS xs (v.fst, v.snd)).fst.length : Int) ≤ (9223372036854775807 : Int)) (.ite (!decide ((quS xs (v.fst, v.snd)).fst = (quS xs (v.fst, v.snd)).fst)) (.leaf [.lit false]) (.ite ((quS xs (v.fst, v.snd)).snd != (quS xs (v.fst, v.snd)).snd) (.leaf [.lit false]) (.need (xs.length ≤ (16777216 : Nat)) (.need ((↑xs.length : Int) ≤ (9223372036854775807 : Int)) (.ite (!decide (xs = xs)) (.leaf [.lit false]) (.need (xs.length ≤ (16777216 : Nat) ∧ (0 : Int) ≤ (1 : Int) ∧ (1 : Int) ≤ (1000000000000 : Int)) (.ite (decide ((1 : Int) + (7 : Int) * (↑xs.length : Int) < (0 : Int))) (.leaf [.lit false]) (.need ((↑(quS xs (v.fst, v.snd)).fst.length : Int) ≤ (9223372036854775807 : Int)) (.ite (!decide ((quS xs (v.fst, v.snd)).fst = (quS xs (v.fst, v.snd)).fst)) (.leaf [.lit false]) (.ite ((quS xs (v.fst, v.snd)).snd != (quS xs (v.fst, v.snd)).snd) (.leaf [.lit false]) (.need ((quS xs (v.fst, v.snd)).fst.length ≤ (16777216 : Nat) ∧ (0 : Int) ≤ (1 : Int) ∧ (1 : Int) ≤ (1000000000000 : Int)) (.need ((rowMark mkNoteV (7 : Int) (quS xs (v.fst, v.snd)).fst.length (1 : Int)).length ≤ (16777216 : Nat) ∧ (0 : Int) ≤ (1 : Int) ∧ (1 : Int) ≤ (1000000000000 : Int)) (.ite (decide (heldR mkNoteV (7 : Int) (rowMark mkNoteV (7 : Int) (quS xs (v.fst, v.snd)).fst.length (1 : Int)) (1 : Int) < (0 : Int))) (.leaf [.lit false]) (.ite (heldR mkNoteV (7 : Int) (rowMark mkNoteV (7 : Int) (quS xs (v.fst, v.snd)).fst.length (1 : Int)) (1 : Int) != (1 : Int) + (7 : Int) * (↑(quS xs (v.fst, v.snd)).fst.length : Int)) (.leaf [.lit false]) (.need (xs.length ≤ (16777216 : Nat)) (.need ((↑xs.length : Int) ≤ (9223372036854775807 : Int)) (.need ((↑(quS xs (v.fst, v.snd)).fst.length : Int) ≤ (9223372036854775807 : Int)) (.ite (!decide ((quS xs (v.fst, v.snd)).fst = (quS xs (v.fst, v.snd)).fst)) (.leaf [.lit false]) (.ite ((quS xs (v.fst, v.snd)).snd != (quS xs (v.fst, v.snd)).snd) (.leaf [.lit false]) (.need ((rowMark mkNoteV (7 : Int) (quS xs (v.fst, v.snd)).fst.length (1 : Int)).length ≤ (16777216 : Nat) ∧ (0 : Int) ≤ (1 : Int) ∧ (1 : Int) ≤ (1000000000000 : Int)) (.ite (decide (heldR mkNoteV (7 : Int) (rowMark mkNoteV (7 : Int) (quS xs (v.fst, v.snd)).fst.length (1 : Int)) (1 : Int) < (0 : Int))) (.leaf [.lit false]) (.ite (heldR mkNoteV (7 : Int) (rowMark mkNoteV (7 : Int) (quS xs (v.fst, v.snd)).fst.length (1 : Int)) (1 : Int) != (1 : Int) + (7 : Int) * (↑(quS xs (v.fst, v.snd)).fst.length : Int)) (.leaf [.lit false]) (.leaf [.lit true]))))))))))))))))))))))))))))) := by kernel_rfl
  refine (congrArg (Tree.ok _) htree).mpr ?_
  clear htree
  have h1 := quS_len xs v
  have eta : ((v.1, v.2) : tFrac.den) = v := rfl
  simp only [Tree.ok, tyd_inj, packAV, AV.same, AV.same.sameL, encV, encS, enc, inK, Nd.ok, List.headD_cons, List.cons_append, List.nil_append, List.append_nil, true_and, and_true, Bool.true_and, Bool.and_true, heldR_mark3, rowMark_length, eta]
  generalize quS xs v = q at *
  repeat' first | apply And.intro | intro _
  all_goals first | omega | trivial | grind
def C_Sr_1 : FuncId → Option Ct := addC 10 ct_lawQuantizeScore C_Sq
theorem C_Sr_1_ok : COk Try.prog C_Sr_1 := addC_ok C_Sq_ok sat_lawQuantizeScore

def C_Sr : FuncId → Option Ct := C_Sr_1
theorem C_Sr_ok : COk Try.prog C_Sr := C_Sr_1_ok
end Go.Proofs.Ytjgjcggecikdpaa
