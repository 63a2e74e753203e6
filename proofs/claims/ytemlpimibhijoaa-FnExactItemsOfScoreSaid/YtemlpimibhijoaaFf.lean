/- Contracts: the end of a score, of the program and the reference. Conditions: as each says. -/
import Derived.Test.YtemlpimibhijoaaFe
set_option linter.unusedSimpArgs false
set_option linter.unusedVariables false
namespace Go.Proofs.Ytemlpimibhijoaa
open Go.RowKit Sx
set_option maxRecDepth 100000
set_option maxHeartbeats 1000000
def fracBd (e : Int × Int) : Prop := (1 ≤ e.2 ∧ e.2 ≤ 1000000) ∧ (-1000000000 ≤ e.1 ∧ e.1 ≤ 1000000000)
theorem mkF_bd {n d : Int} (hd : d ≠ 0) (h : (mkF n d).2 = 0) : fracBd (mkF n d).1 := by
  rw [mkF_pos n d hd] at h ⊢
  have g1 := gcd_pos (n := n) hd
  have b1 := div_bd (n.natAbs : Int) _ (by omega) g1
  have hle : (Int.gcd n d : Int) ≤ (d.natAbs : Int) := by
    have : Int.gcd n d ≤ d.natAbs := Nat.le_of_dvd (by omega) (Nat.gcd_dvd_right _ _)
    omega
  have b2 : 1 ≤ (d.natAbs : Int) / (Int.gcd n d : Int) := by
    have := Int.ediv_le_ediv (by omega : (0 : Int) < (Int.gcd n d : Int)) hle
    rwa [Int.ediv_self (by omega)] at this
  generalize (n.natAbs : Int) / (Int.gcd n d : Int) = q1 at *
  generalize (d.natAbs : Int) / (Int.gcd n d : Int) = q2 at *
  split at h
  · simp at h
  · rename_i hc
    rw [if_neg hc]
    unfold fracBd
    refine ⟨by simp only; omega, ?_⟩
    simp only
    split <;> omega
def endN (x : tNote.den) : Int × Int := (addF x.1.1 x.1.2 x.2.1.1 x.2.1.2).1
theorem endN_bd {x : tNote.den} (h : noteF x = true) : fracBd (endN x) := by
  simp only [noteF, beatF, Bool.and_eq_true, decide_eq_true_eq] at h
  have h1 := okF_bd h.1.1
  have h2 := okF_bd h.2.1.1
  have h3 := h.2.2.2.1
  have h4 := mul_bd2 h1.1 h2.1
  unfold endN
  unfold addF opF at h3 ⊢
  rw [if_pos (by rw [h.1.1, h.2.1.1]; rfl)] at h3 ⊢
  exact mkF_bd (by omega) h3
def endStep (x : tNote.den) (e : Int × Int) : Int × Int := if 0 < cmpF (endN x).1 (endN x).2 e.1 e.2 then endN x else e
def endGo (xs : List tNote.den) : Nat → Nat → Int × Int → Int × Int
  | 0, _, e => e
  | n + 1, i, e => endGo xs n (i + 1) (endStep (xs.getD i tNote.zero) e)
theorem endGo_go (xs : List tNote.den) (i : Nat) (e : Int × Int) (h : i < xs.length) : endGo xs (xs.length - i) i e = endGo xs (xs.length - (i + 1)) (i + 1) (endStep (xs.getD i tNote.zero) e) := by
  rw [show xs.length - i = (xs.length - (i + 1)) + 1 by omega]; rfl
def endF (xs : List tNote.den) : Int × Int := endGo xs xs.length 0 (0, 1)
def endS (xs : List tNote.den) : (Int × Int) × Int := if scoreF xs = true then (endF xs, 0) else ((0, 0), 1)
theorem score_notes {xs : List tNote.den} (h : scoreF xs = true) : xs.length ≤ 60 ∧ notesF xs = true := by
  have hb := both_all xs
  simp only [scoreF, hb, Bool.and_eq_true, decide_eq_true_eq] at h
  exact ⟨h.1, h.2.1⟩
def ct_noteEnd : Ct := ctOf [.s tNote] (fun _ => .tt) (fun ((x : tNote.den), _) => .agg (enc tFrac (endN x)))
set_option maxHeartbeats 1000000 in
theorem sat_noteEnd : Sat Try.prog 62 ct_noteEnd := by
  refine sat_typed (C := C_Fe) (L := noL) (wr := false) mixedOk Try.func62 C_Fe_ok (loops0 (by kernel_rfl)) (fun _ => by first | rfl | (simp [ownsOf, ownsOf.ownsL, enc, encV, encS])) fun x hp => ?_
  obtain ⟨(x : tNote.den), _⟩ := x
  clear hp
  have htree : exFunc Try.prog C_Fe false noL Try.f62 (encA [.s tNote] (x, ())) = .leaf [.agg [.int .i64 ((addF x.fst.fst x.fst.snd x.snd.fst.fst x.snd.fst.snd).fst.fst), .int .i64 ((addF x.fst.fst x.fst.snd x.snd.fst.fst x.snd.fst.snd).fst.snd)]] := by kernel_rfl
  refine (congrArg (Tree.ok _) htree).mpr ?_
  clear htree
  simp [Tree.ok, tyd_inj, packAV, AV.same, AV.same.sameL, encV, encS, enc, inK, Nd.ok, List.headD_cons, List.cons_append, List.nil_append, List.append_nil, true_and, and_true, Bool.true_and, Bool.and_true, endN]
def C_Ff_1 : FuncId → Option Ct := addC 62 ct_noteEnd C_Fe
theorem C_Ff_1_ok : COk Try.prog C_Ff_1 := addC_ok C_Fe_ok sat_noteEnd

def C_Ff : FuncId → Option Ct := C_Ff_1
theorem C_Ff_ok : COk Try.prog C_Ff := C_Ff_1_ok
end Go.Proofs.Ytemlpimibhijoaa
