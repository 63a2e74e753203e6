/- The law on stacked tunings. Conditions: as each says. -/
import Derived.Test.YtjgjcggecikdpaaRe
import Derived.Test.YtjgjcggecikdpaaFl
set_option linter.unusedSimpArgs false
set_option linter.unusedVariables false
namespace Go.Proofs.Ytjgjcggecikdpaa
open Go.RowKit Sx
set_option maxRecDepth 100000
set_option maxHeartbeats 1000000
def C_RgB : FuncId → Option Ct := addC 48 ct_iStack (addC 46 ct_sStack C_Fl)
theorem C_RgB_ok : COk Try.prog C_RgB := addC_ok (addC_ok C_Fl_ok sat_sStack) sat_iStack
theorem stackF_len (b o g : Fr) (n : Int) : (stackF b o g n).1.2.2.length ≤ 24 := by
  unfold stackF
  split
  · split
    · simp [noT]
    · rename_i h
      split
      · split
        · have h7 : ¬ inB n 1 24 = false := fun e => h (.inr (.inr (.inr e)))
          have hn := (inB_iff n 1 24).1 (by simpa using h7)
          have hl := stGo_len o g (n - 1).toNat (1, 1) [(1, 1)]
          simp only [List.length_cons, List.length_nil] at hl
          show (stGo o g (n - 1).toNat (1, 1) [(1, 1)]).1.length ≤ 24
          omega
        · simp [noT]
      · simp [noT]
  · simp [noT]
def ct_lawStack : Ct := ctOf [.s tFrac, .s tFrac, .s tFrac, .v (.int .i64)] (fun _ => .tt) (fun ((b : tFrac.den), (o : tFrac.den), (g : tFrac.den), (n : Int), _) => .bool true)
set_option maxHeartbeats 1000000 in
theorem sat_lawStack : Sat Try.prog 9 ct_lawStack := by
  refine sat_typed (C := C_RgB) (L := noL) (wr := false) mixedOk Try.func9 C_RgB_ok (loops0 (by kernel_rfl)) (fun _ => by first | rfl | (simp [ownsOf, ownsOf.ownsL, enc, encV, encS])) fun x hp => ?_
  obtain ⟨(b : tFrac.den), (o : tFrac.den), (g : tFrac.den), (n : Int), _⟩ := x
  clear hp
  have htree : exFunc Try.prog C_RgB false noL Try.f9 (encA [.s tFrac, .s tFrac, .s tFrac, .v (.int .i64)] (b, o, g, n, ())) = .need ((↑(List.length (stackF (b.fst, b.snd) (o.fst, o.snd) (g.fst, g.snd) n).fst.snd.snd) : Int) ≤ (9223372036854775807 : Int)) (.ite (!decide ((stackF (b.fst, b.snd) (o.fst, o.snd) (g.fst, g.snd) n).fst.fst.fst = (stackF (b.fst, b.snd) (o.fst, o.snd) (g.fst, g.snd) n).fst.fst.fst ∧ (stackF (b.fst, b.snd) (o.fst, o.snd) (g.fst, g.snd) n).fst.fst.snd = (stackF (b.fst, b.snd) (o.fst, o.snd) (g.fst, g.snd) n).fst.fst.snd ∧ (stackF (b.fst, b.snd) (o.fst, o.snd) (g.fst, g.snd) n).fst.snd.fst.fst = (stackF (b.fst, b.snd) (o.fst, o.snd) (g.fst, g.snd) n).fst.snd.fst.fst ∧ (stackF (b.fst, b.snd) (o.fst, o.snd) (g.fst, g.snd) n).fst.snd.fst.snd = (stackF (b.fst, b.snd) (o.fst, o.snd) (g.fst, g.snd) n).fst.snd.fst.snd ∧ (stackF (b.fst, b.snd) (o.fst, o.snd) (g.fst, g.snd) n).fst.snd.snd = (stackF (b.fst, b.snd) (o.fst, o.snd) (g.fst, g.snd) n).fst.snd.snd)) (.leaf [.lit false]) (.ite ((stackF (b.fst, b.snd) (o.fst, o.snd) (g.fst, g.snd) n).snd != (stackF (b.fst, b.snd) (o.fst, o.snd) (g.fst, g.snd) n).snd) (.leaf [.lit false]) (.need (List.length (stackF (b.fst, b.snd) (o.fst, o.snd) (g.fst, g.snd) n).fst.snd.snd ≤ (16777216 : Nat) ∧ (0 : Int) ≤ (1 : Int) ∧ (1 : Int) ≤ (1000000000000 : Int)) (.need ((rowMark mkFracV (2 : Int) (List.length (stackF (b.fst, b.snd) (o.fst, o.snd) (g.fst, g.snd) n).fst.snd.snd) (1 : Int)).length ≤ (16777216 : Nat) ∧ (0 : Int) ≤ (1 : Int) ∧ (1 : Int) ≤ (1000000000000 : Int)) (.ite (decide (heldR mkFracV (2 : Int) (rowMark mkFracV (2 : Int) (List.length (stackF (b.fst, b.snd) (o.fst, o.snd) (g.fst, g.snd) n).fst.snd.snd) (1 : Int)) (1 : Int) < (0 : Int))) (.leaf [.lit false]) (.ite (heldR mkFracV (2 : Int) (rowMark mkFracV (2 : Int) (List.length (stackF (b.fst, b.snd) (o.fst, o.snd) (g.fst, g.snd) n).fst.snd.snd) (1 : Int)) (1 : Int) != (1 : Int) + (2 : Int) * (↑(List.length (stackF (b.fst, b.snd) (o.fst, o.snd) (g.fst, g.snd) n).fst.snd.snd) : Int)) (.leaf [.lit false]) (.need ((↑(List.length (stackF (b.fst, b.snd) (o.fst, o.snd) (g.fst, g.snd) n).fst.snd.snd) : Int) ≤ (9223372036854775807 : Int)) (.ite (!decide ((stackF (b.fst, b.snd) (o.fst, o.snd) (g.fst, g.snd) n).fst.fst.fst = (stackF (b.fst, b.snd) (o.fst, o.snd) (g.fst, g.snd) n).fst.fst.fst ∧ (stackF (b.fst, b.snd) (o.fst, o.snd) (g.fst, g.snd) n).fst.fst.snd = (stackF (b.fst, b.snd) (o.fst, o.snd) (g.fst, g.snd) n).fst.fst.snd ∧ (stackF (b.fst, b.snd) (o.fst, o.snd) (g.fst, g.snd) n).fst.snd.fst.fst = (stackF (b.fst, b.snd) (o.fst, o.snd) (g.fst, g.snd) n).fst.snd.fst.fst ∧ (stackF (b.fst, b.snd) (o.fst, o.snd) (g.fst, g.snd) n).fst.snd.fst.snd = (stackF (b.fst, b.snd) (o.fst, o.snd) (g.fst, g.snd) n).fst.snd.fst.snd ∧ (stackF (b.fst, b.snd) (o.fst, o.snd) (g.fst, g.snd) n).fst.snd.snd = (stackF (b.fst, b.snd) (o.fst, o.snd) (g.fst, g.snd) n).fst.snd.snd)) (.leaf [.lit false]) (.ite ((stackF (b.fst, b.snd) (o.fst, o.snd) (g.fst, g.snd) n).snd != (stackF (b.fst, b.snd) (o.fst, o.snd) (g.fst, g.snd) n).snd) (.leaf [.lit false]) (.need ((rowMark mkFracV (2 : Int) (List.length (stackF (b.fst, b.snd) (o.fst, o.snd) (g.fst, g.snd) n).fst.snd.snd) (1 : Int)).length ≤ (16777216 : Nat) ∧ (0 : Int) ≤ (1 : Int) ∧ (1 : Int) ≤ (1000000000000 : Int)) (.ite (decide (heldR mkFracV (2 : Int) (rowMark mkFracV (2 : Int) (List.length (stackF (b.fst, b.snd) (o.fst, o.snd) (g.fst, g.snd) n).fst.snd.snd) (1 : Int)) (1 : Int) < (0 : Int))) (.leaf [.lit false]) (.ite (heldR mkFracV (2 : Int) (rowMark mkFracV (2 : Int) (List.length (stackF (b.fst, b.snd) (o.fst, o.snd) (g.fst, g.snd) n).fst.snd.snd) (1 : Int)) (1 : Int) != (1 : Int) + (2 : Int) * (↑(List.length (stackF (b.fst, b.snd) (o.fst, o.snd) (g.fst, g.snd) n).fst.snd.snd) : Int)) (.leaf [.lit false]) (.leaf [.lit true]))))))))))))) := by kernel_rfl
  refine (congrArg (Tree.ok _) htree).mpr ?_
  clear htree
  have h1 := stackF_len b o g n
  have eta : ∀ z : Fr, (z.1, z.2) = z := fun _ => rfl
  simp only [Tree.ok, tyd_inj, packAV, AV.same, AV.same.sameL, encV, encS, enc, inK, Nd.ok, List.headD_cons, List.cons_append, List.nil_append, List.append_nil, true_and, and_true, Bool.true_and, Bool.and_true, eta, heldR_mark, rowMark_length]
  generalize stackF b o g n = q at *
  obtain ⟨⟨⟨b1, b2⟩, ⟨o1, o2⟩, rs⟩, c⟩ := q
  repeat' first | apply And.intro | intro _
  all_goals first | omega | trivial | grind
def C_Rg_1 : FuncId → Option Ct := addC 9 ct_lawStack C_RgB
theorem C_Rg_1_ok : COk Try.prog C_Rg_1 := addC_ok C_RgB_ok sat_lawStack

def C_Rg : FuncId → Option Ct := C_Rg_1
theorem C_Rg_ok : COk Try.prog C_Rg := C_Rg_1_ok
end Go.Proofs.Ytjgjcggecikdpaa
