/- The steps of a tuning, its modes; the laws on them. Conditions: as each says. -/
import Derived.Test.YtkeckmdmmbeaiaaDoorFk
set_option linter.unusedSimpArgs false
set_option linter.unusedVariables false
namespace Go.Proofs.YtkeckmdmmbeaiaaDoor
open Go.RowKit Sx
set_option maxRecDepth 100000
set_option maxHeartbeats 1000000
def ct_markTuning : Ct := ctOfW [.os tTuning, .v (.int .i64)] (fun ((x : tTuning.den), (k : Int), _) => .p ((x.2.2 : List tFrac.den).length ≤ 16777216 ∧ (0 ≤ k ∧ k ≤ 1000000000000))) (fun ((x : tTuning.den), (k : Int), _) => .int .i64 (k + 2 * ((x.2.2 : List tFrac.den).length : Int))) (fun ((x : tTuning.den), (k : Int), _) => ⟨tFrac, rowMark mkFracV 2 (x.2.2 : List tFrac.den).length k⟩)
set_option maxHeartbeats 1000000 in
theorem sat_markTuning : Sat Tryd.prog 41 ct_markTuning := by
  refine sat_typedW (C := C_Fk) (L := noL) (wr := false) mixedOk Tryd.func41 C_Fk_ok (loops0 (by kernel_rfl)) (fun _ => rfl) fun x hp => ?_
  obtain ⟨(x : tTuning.den), (k : Int), _⟩ := x
  replace hp : (x.2.2 : List tFrac.den).length ≤ 16777216 ∧ (0 ≤ k ∧ k ≤ 1000000000000) := hp
  have htree : exFuncW Tryd.prog C_Fk false noL Tryd.f41 true (rowed.rowedL BR (encA [.os tTuning, .v (.int .i64)] (x, k, ()))) ⟨tFrac, x.2.2⟩ = .need (List.length x.snd.snd ≤ (16777216 : Nat) ∧ (0 : Int) ≤ k ∧ k ≤ (1000000000000 : Int)) (.leaf ([.int .i64 (k + (2 : Int) * (↑(List.length x.snd.snd) : Int))], some ⟨I64.pair I64, rowMark mkFracV (2 : Int) (List.length x.snd.snd) k⟩)) := by kernel_rfl
  refine (congrArg (Tree.ok _) htree).mpr ?_
  clear htree
  simp only [Tree.ok, tyd_inj, packAV, AV.same, AV.same.sameL, encV, encS, enc, inK, Nd.ok, List.headD_cons, List.cons_append, List.nil_append, List.append_nil, true_and, and_true, Bool.true_and, Bool.and_true]
  repeat' first | apply And.intro | intro _
  all_goals first | omega | trivial | assumption
def C_Fl_1 : FuncId → Option Ct := addC 41 ct_markTuning C_Fk
theorem C_Fl_1_ok : COk Tryd.prog C_Fl_1 := addC_ok C_Fk_ok sat_markTuning
def ct_heldTuning : Ct := ctOf [.s tTuning, .v (.int .i64)] (fun ((x : tTuning.den), (k : Int), _) => .p ((x.2.2 : List tFrac.den).length ≤ 16777216 ∧ (0 ≤ k ∧ k ≤ 1000000000000))) (fun ((x : tTuning.den), (k : Int), _) => .int .i64 (heldR mkFracV 2 (x.2.2 : List tFrac.den) k))
set_option maxHeartbeats 1000000 in
theorem sat_heldTuning : Sat Tryd.prog 42 ct_heldTuning := by
  refine sat_typed (C := C_Fl_1) (L := noL) (wr := false) mixedOk Tryd.func42 C_Fl_1_ok (loops0 (by kernel_rfl)) (fun _ => by first | rfl | (simp [ownsOf, ownsOf.ownsL, enc, encV, encS])) fun x hp => ?_
  obtain ⟨(x : tTuning.den), (k : Int), _⟩ := x
  replace hp : (x.2.2 : List tFrac.den).length ≤ 16777216 ∧ (0 ≤ k ∧ k ≤ 1000000000000) := hp
  have htree : exFunc Tryd.prog C_Fl_1 false noL Tryd.f42 (encA [.s tTuning, .v (.int .i64)] (x, k, ())) = .need (List.length x.snd.snd ≤ (16777216 : Nat) ∧ (0 : Int) ≤ k ∧ k ≤ (1000000000000 : Int)) (.ite (decide (heldR mkFracV (2 : Int) x.snd.snd k < (0 : Int))) (.leaf [.int .i64 ((-1 : Int))]) (.leaf [.int .i64 (heldR mkFracV (2 : Int) x.snd.snd k)])) := by kernel_rfl
  refine (congrArg (Tree.ok _) htree).mpr ?_
  clear htree
  simp only [Tree.ok, tyd_inj, packAV, AV.same, AV.same.sameL, encV, encS, enc, inK, Nd.ok, List.headD_cons, List.cons_append, List.nil_append, List.append_nil, true_and, and_true, Bool.true_and, Bool.and_true]
  repeat' first | apply And.intro | intro _
  all_goals first | omega | trivial | assumption | grind [heldR]
def C_Fl_2 : FuncId → Option Ct := addC 42 ct_heldTuning C_Fl_1
theorem C_Fl_2_ok : COk Tryd.prog C_Fl_2 := addC_ok C_Fl_1_ok sat_heldTuning
def stepsGo : Fr → List Fr → List Fr × Int
  | _, [] => ([], 0)
  | b, r :: rs => if (divF r.1 r.2 b.1 b.2).2 = 0 then ((divF r.1 r.2 b.1 b.2).1 :: (stepsGo r rs).1, (stepsGo r rs).2) else ([], 2)
def stepsF (x : tTuning.den) : List tFrac.den × Int := if tuneF x = true then (if (stepsGo (atF x.2.2 0) ((x.2.2 : List tFrac.den).drop 1 ++ [x.2.1])).2 = 0 then ((stepsGo (atF x.2.2 0) ((x.2.2 : List tFrac.den).drop 1 ++ [x.2.1])).1, 0) else ([], 2)) else ([], 1)
theorem divF_cd {a b c d : Int} (h1 : okF a b = true) (h2 : okF c d = true) : (divF a b c d).2 = 0 ∨ (divF a b c d).2 = 2 := by
  have g1 := okF_bd h1
  unfold divF
  rw [if_pos ⟨h1, h2⟩]
  split
  · exact .inr rfl
  · rename_i hc
    rcases mkF_code (a * d) (b * c) (Int.mul_ne_zero (by omega) hc) with h | h
    · exact .inl h
    · exact .inr h.1
theorem stepsGo_at (all : List tFrac.den) (i : Nat) (b : Fr) (h : i < all.length) : stepsGo b (all.drop i) = if (divF (atF all i).1 (atF all i).2 b.1 b.2).2 = 0 then ((divF (atF all i).1 (atF all i).2 b.1 b.2).1 :: (stepsGo (atF all i) (all.drop (i + 1))).1, (stepsGo (atF all i) (all.drop (i + 1))).2) else ([], 2) := by
  unfold atF
  rw [getD_lt _ _ _ h, List.drop_eq_getElem_cons h]
  rfl
theorem stepsGo_len : ∀ (b : Fr) (l : List Fr), (stepsGo b l).1.length ≤ l.length
  | _, [] => Nat.le_refl _
  | b, r :: rs => by
    have := stepsGo_len r rs
    unfold stepsGo
    split <;> simp <;> omega
theorem tune_all {x : tTuning.den} (h : tuneF x = true) : okFs (x.2.2 : List tFrac.den) = true := by
  have hs := rat_split x.2.2 x.2.1.1 x.2.1.2 (x.2.2 : List tFrac.den).length 0 (by omega)
  rw [List.drop_zero] at hs
  simp only [tuneF, hs, Bool.and_eq_true] at h
  exact h.2.2.2.2.2.2.1
theorem okFs_app (xs ys : List tFrac.den) : okFs (xs ++ ys) = (okFs xs && okFs ys) := List.all_append
theorem heldR_mark {α : Type} [DecidableEq α] (f : Int → α) (s : Int) (n : Nat) (k : Int) : heldR f s (rowMark f s n k) k = k + s * (n : Int) := by
  simp [heldR, rowMark_length]
theorem stepsF_len (x : tTuning.den) : (stepsF x).1.length ≤ 24 := by
  unfold stepsF
  split
  · rename_i h
    have hb := tune_bd h
    have h1 := stepsGo_len (atF x.2.2 0) ((x.2.2 : List tFrac.den).drop 1 ++ [x.2.1])
    have h2 : ((x.2.2 : List tFrac.den).drop 1 ++ [x.2.1]).length = (x.2.2 : List tFrac.den).length - 1 + 1 := by simp
    split
    · simp only; omega
    · simp
  · simp

def C_Fl : FuncId → Option Ct := C_Fl_2
theorem C_Fl_ok : COk Tryd.prog C_Fl := C_Fl_2_ok
end Go.Proofs.YtkeckmdmmbeaiaaDoor
