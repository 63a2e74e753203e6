/- The law on PlayItems, by the evaluator. Conditions: as each says. -/
import Derived.Test.YtemlpimibhijoaaJp
set_option linter.unusedSimpArgs false
set_option linter.unusedVariables false
namespace Go.Proofs.Ytemlpimibhijoaa
open Go.RowKit Sx
set_option maxRecDepth 100000
set_option maxHeartbeats 1000000
def ct_markScoreJ : Ct := ctOfW [.os qNote, .v (.int .i64)] (fun ((ys : List tNote.den), (k : Int), _) => .p (ys.length ≤ 16777216 ∧ (0 ≤ k ∧ k ≤ 1000000000000))) (fun ((ys : List tNote.den), (k : Int), _) => .int .i64 (k + 7 * (ys.length : Int))) (fun ((ys : List tNote.den), (k : Int), _) => ⟨tNote, rowMark mkNoteV 7 ys.length k⟩)
set_option maxHeartbeats 1000000 in
theorem sat_markScoreJ : Sat Try.prog 14 ct_markScoreJ := by
  refine sat_typedW (C := C_Jp) (L := noL) (wr := false) mixedOk Try.func14 C_Jp_ok (loops0 (by kernel_rfl)) (fun _ => rfl) fun x hp => ?_
  obtain ⟨(ys : List tNote.den), (k : Int), _⟩ := x
  replace hp : ys.length ≤ 16777216 ∧ (0 ≤ k ∧ k ≤ 1000000000000) := hp
  have htree : exFuncW Try.prog C_Jp false noL Try.f14 true (rowed.rowedL BR (encA [.os qNote, .v (.int .i64)] (ys, k, ()))) ⟨tNote, ys⟩ = .need (ys.length ≤ (16777216 : Nat) ∧ (0 : Int) ≤ k ∧ k ≤ (1000000000000 : Int)) (.leaf ([.int .i64 (k + (7 : Int) * (↑ys.length : Int))], some ⟨tFrac.pair (tFrac.pair (I64.pair (I64.pair I64))), rowMark mkNoteV (7 : Int) ys.length k⟩)) := by kernel_rfl
  refine (congrArg (Tree.ok _) htree).mpr ?_
  clear htree
  simp only [Tree.ok, tyd_inj, packAV, AV.same, AV.same.sameL, encV, encS, enc, inK, Nd.ok, List.headD_cons, List.cons_append, List.nil_append, List.append_nil, true_and, and_true, Bool.true_and, Bool.and_true]
  repeat' first | apply And.intro | intro _
  all_goals first | omega | trivial | assumption
def C_Jq_1 : FuncId → Option Ct := addC 14 ct_markScoreJ C_Jp
theorem C_Jq_1_ok : COk Try.prog C_Jq_1 := addC_ok C_Jp_ok sat_markScoreJ
def ct_heldScoreJ : Ct := ctOf [.s qNote, .v (.int .i64)] (fun ((ys : List tNote.den), (k : Int), _) => .p (ys.length ≤ 16777216 ∧ (0 ≤ k ∧ k ≤ 1000000000000))) (fun ((ys : List tNote.den), (k : Int), _) => .int .i64 (heldR mkNoteV 7 ys k))
set_option maxHeartbeats 1000000 in
theorem sat_heldScoreJ : Sat Try.prog 15 ct_heldScoreJ := by
  refine sat_typed (C := C_Jq_1) (L := noL) (wr := false) mixedOk Try.func15 C_Jq_1_ok (loops0 (by kernel_rfl)) (fun _ => by first | rfl | (simp [ownsOf, ownsOf.ownsL, enc, encV, encS])) fun x hp => ?_
  obtain ⟨(ys : List tNote.den), (k : Int), _⟩ := x
  replace hp : ys.length ≤ 16777216 ∧ (0 ≤ k ∧ k ≤ 1000000000000) := hp
  have htree : exFunc Try.prog C_Jq_1 false noL Try.f15 (encA [.s qNote, .v (.int .i64)] (ys, k, ())) = .need (ys.length ≤ (16777216 : Nat) ∧ (0 : Int) ≤ k ∧ k ≤ (1000000000000 : Int)) (.ite (decide (heldR mkNoteV (7 : Int) ys k < (0 : Int))) (.leaf [.int .i64 ((-1 : Int))]) (.leaf [.int .i64 (heldR mkNoteV (7 : Int) ys k)])) := by kernel_rfl
  refine (congrArg (Tree.ok _) htree).mpr ?_
  clear htree
  simp only [Tree.ok, tyd_inj, packAV, AV.same, AV.same.sameL, encV, encS, enc, inK, Nd.ok, List.headD_cons, List.cons_append, List.nil_append, List.append_nil, true_and, and_true, Bool.true_and, Bool.and_true]
  repeat' first | apply And.intro | intro _
  all_goals first | omega | trivial | assumption | grind [heldR]
def C_Jq_2 : FuncId → Option Ct := addC 15 ct_heldScoreJ C_Jq_1
theorem C_Jq_2_ok : COk Try.prog C_Jq_2 := addC_ok C_Jq_1_ok sat_heldScoreJ
theorem heldR_markJ {α : Type} [DecidableEq α] (f : Int → α) (s : Int) (n : Nat) (k : Int) : heldR f s (rowMark f s n k) k = k + s * (n : Int) := by
  simp [heldR, rowMark_length]
theorem playC_len (f : Its × Int) (ch : Int) : (playC f ch).1.length ≤ 60 := by
  unfold playC
  split
  · split
    · split
      · simp
      · rename_i h; simp only; omega
    · simp
  · simp
theorem playA_len (l : Its) (ch : Int) : (playA l ch).1.length ≤ 60 := by
  unfold playA
  split
  · split
    · exact playC_len _ _
    · simp
  · simp
theorem itEnd_sz : ∀ (xs : List tItem.den) (n k : Int), 0 ≤ n → ¬ szIt xs n < 0 → itEnd xs k ≤ k + 7 * (xs.length : Int) + 3 * (n - szIt xs n)
  | [], n, k, _, _ => by simp [itEnd, szIt]
  | x :: xs, n, k, h0, h1 => by
    simp only [szIt] at h1 ⊢
    by_cases h2 : n - pLen x.2.1 < 0
    · rw [if_pos h2] at h1; omega
    · rw [if_neg h2] at h1 ⊢
      have h3 := itEnd_sz xs (n - pLen x.2.1) (k + 1 + 3 * (itN x : Int) + 1 + 1 + 1 + 1 + 1 + 1) (by omega) h1
      have h4 : (itN x : Int) = pLen x.2.1 := rfl
      simp only [itEnd, List.length_cons]
      omega
theorem pLen_itN {x : tItem.den} {N : Int} (h : pLen x.2.1 ≤ N) : (itN x : Int) ≤ N := h
def ct_lawPlayItems : Ct := ctOf [.v qItem, .v (.int .i64)] (fun ((xs : List tItem.den), (ch : Int), _) => .p ((xs.length : Int) ≤ 9223372036854775807 ∧ ∀ z ∈ xs, pLen z.2.1 ≤ 9223372036854775807)) (fun ((xs : List tItem.den), (ch : Int), _) => .bool true)
set_option maxHeartbeats 1000000 in
theorem sat_lawPlayItems : Sat Try.prog 3 ct_lawPlayItems := by
  refine sat_typed (C := C_Jq_2) (L := noL) (wr := false) mixedOk Try.func3 C_Jq_2_ok (loops0 (by kernel_rfl)) (fun _ => by first | rfl | (simp [ownsOf, ownsOf.ownsL, enc, encV, encS])) fun x hp => ?_
  obtain ⟨(xs : List tItem.den), (ch : Int), _⟩ := x
  replace hp : (xs.length : Int) ≤ 9223372036854775807 ∧ ∀ z ∈ xs, pLen z.2.1 ≤ 9223372036854775807 := hp
  have htree : exFunc Try.prog C_Jq_2 false noL Try.f3 (encA [.v qItem, .v (.int .i64)] (xs, ch, ())) = .need ((((0 : Int) ≤ (1048576 : Int) ∧ (1048576 : Int) ≤ (1048576 : Int)) ∧ (↑xs.length : Int) ≤ (9223372036854775807 : Int)) ∧ ∀ (z : tItem.den), z ∈ xs → pLen z.snd.fst ≤ (9223372036854775807 : Int)) (.ite (decide ((if (1048576 : Int) - (↑xs.length : Int) < (0 : Int) then (-1 : Int) else szIt xs ((1048576 : Int) - (↑xs.length : Int))) < (0 : Int))) (.leaf [.lit true]) (.need (xs.length ≤ (16777216 : Nat) ∧ ∀ (z : tItem.den), z ∈ xs → pLen z.snd.fst ≤ (16777216 : Int)) (.need ((↑xs.length : Int) ≤ (9223372036854775807 : Int) ∧ ∀ (z : tItem.den), z ∈ xs → pLen z.snd.fst ≤ (9223372036854775807 : Int)) (.need (xs.length ≤ (16777216 : Nat) ∧ ∀ (z : tItem.den), z ∈ xs → pLen z.snd.fst ≤ (16777216 : Int)) (.need ((↑xs.length : Int) ≤ (9223372036854775807 : Int) ∧ ∀ (z : tItem.den), z ∈ xs → pLen z.snd.fst ≤ (9223372036854775807 : Int)) (.need ((↑(playA xs ch).fst.length : Int) ≤ (9223372036854775807 : Int)) (.ite (!decide ((playA xs ch).fst = (playA xs ch).fst)) (.leaf [.lit false]) (.ite ((playA xs ch).snd != (playA xs ch).snd) (.leaf [.lit false]) (.need (xs.length ≤ (16777216 : Nat) ∧ ∀ (z : tItem.den), z ∈ xs → pLen z.snd.fst ≤ (16777216 : Int)) (.need ((↑xs.length : Int) ≤ (9223372036854775807 : Int) ∧ ∀ (z : tItem.den), z ∈ xs → pLen z.snd.fst ≤ (9223372036854775807 : Int)) (.ite (!decide (xs = xs)) (.leaf [.lit false]) (.need ((xs.length ≤ (16777216 : Nat) ∧ (0 : Int) ≤ (1 : Int) ∧ itEnd xs (1 : Int) ≤ (1000000000000 : Int)) ∧ ∀ (z : tItem.den), z ∈ xs → itN z ≤ (16777216 : Nat)) (.ite (decide (itEnd xs (1 : Int) < (0 : Int))) (.leaf [.lit false]) (.need ((↑(playA xs ch).fst.length : Int) ≤ (9223372036854775807 : Int)) (.ite (!decide ((playA xs ch).fst = (playA xs ch).fst)) (.leaf [.lit false]) (.ite ((playA xs ch).snd != (playA xs ch).snd) (.leaf [.lit false]) (.need ((playA xs ch).fst.length ≤ (16777216 : Nat) ∧ (0 : Int) ≤ (1 : Int) ∧ (1 : Int) ≤ (1000000000000 : Int)) (.need ((rowMark mkNoteV (7 : Int) (playA xs ch).fst.length (1 : Int)).length ≤ (16777216 : Nat) ∧ (0 : Int) ≤ (1 : Int) ∧ (1 : Int) ≤ (1000000000000 : Int)) (.ite (decide (heldR mkNoteV (7 : Int) (rowMark mkNoteV (7 : Int) (playA xs ch).fst.length (1 : Int)) (1 : Int) < (0 : Int))) (.leaf [.lit false]) (.ite (heldR mkNoteV (7 : Int) (rowMark mkNoteV (7 : Int) (playA xs ch).fst.length (1 : Int)) (1 : Int) != (1 : Int) + (7 : Int) * (↑(playA xs ch).fst.length : Int)) (.leaf [.lit false]) (.need (xs.length ≤ (16777216 : Nat) ∧ ∀ (z : tItem.den), z ∈ xs → pLen z.snd.fst ≤ (16777216 : Int)) (.need ((↑xs.length : Int) ≤ (9223372036854775807 : Int) ∧ ∀ (z : tItem.den), z ∈ xs → pLen z.snd.fst ≤ (9223372036854775807 : Int)) (.need ((↑(playA xs ch).fst.length : Int) ≤ (9223372036854775807 : Int)) (.ite (!decide ((playA xs ch).fst = (playA xs ch).fst)) (.leaf [.lit false]) (.ite ((playA xs ch).snd != (playA xs ch).snd) (.leaf [.lit false]) (.need ((rowMark mkNoteV (7 : Int) (playA xs ch).fst.length (1 : Int)).length ≤ (16777216 : Nat) ∧ (0 : Int) ≤ (1 : Int) ∧ (1 : Int) ≤ (1000000000000 : Int)) (.ite (decide (heldR mkNoteV (7 : Int) (rowMark mkNoteV (7 : Int) (playA xs ch).fst.length (1 : Int)) (1 : Int) < (0 : Int))) (.leaf [.lit false]) (.ite (heldR mkNoteV (7 : Int) (rowMark mkNoteV (7 : Int) (playA xs ch).fst.length (1 : Int)) (1 : Int) != (1 : Int) + (7 : Int) * (↑(playA xs ch).fst.length : Int)) (.leaf [.lit false]) (.leaf [.lit true]))))))))))))))))))))))))))))) := by kernel_rfl
  refine (congrArg (Tree.ok _) htree).mpr ?_
  clear htree
  have hpl := playA_len xs ch
  simp only [Tree.ok, tyd_inj, packAV, AV.same, AV.same.sameL, encV, encS, enc, inK, Nd.ok, List.headD_cons, List.cons_append, List.nil_append, List.append_nil, true_and, and_true, Bool.true_and, Bool.and_true, heldR_markJ, rowMark_length]
  obtain ⟨hx, hqx⟩ := hp
  have he0 := itEnd_le xs 1
  by_cases h1 : (1048576 : Int) - (xs.length : Int) < 0
  · simp only [if_pos h1]
    repeat' first | apply And.intro | intro _
    all_goals first | omega | trivial | exact hqx _ ‹_› | (simp_all; done)
  · simp only [if_neg h1]
    have h2 := szIt_low xs (1048576 - (xs.length : Int)) (by omega)
    have h3 := szIt_bound xs (1048576 - (xs.length : Int)) (by omega)
    have h7 := itEnd_sz xs (1048576 - (xs.length : Int)) 1 (by omega)
    revert h2 h3 h7
    generalize szIt xs (1048576 - (xs.length : Int)) = s
    generalize itEnd xs 1 = e at *
    generalize playA xs ch = V at *
    intro h2 h3 h7
    by_cases h4 : s < 0
    · rw [decide_eq_true h4]
      repeat' first | apply And.intro | intro _
      all_goals first | omega | trivial | exact hqx _ ‹_› | (simp_all; done)
    · obtain ⟨h5, h6⟩ := h3 h4
      have h7 := h7 h4
      have h8 : ∀ z ∈ xs, itN z ≤ 16777216 := fun z hz => by
        have := pLen_itN (h6 z hz); omega
      repeat' first | apply And.intro | intro _
      all_goals first | omega | trivial | exact hqx _ ‹_› | exact h8 _ ‹_› | (have := h6 _ ‹_›; omega) | (simp_all; done) | (simp_all; omega)
def C_Jq_3 : FuncId → Option Ct := addC 3 ct_lawPlayItems C_Jq_2
theorem C_Jq_3_ok : COk Try.prog C_Jq_3 := addC_ok C_Jq_2_ok sat_lawPlayItems

def C_Jq : FuncId → Option Ct := C_Jq_3
theorem C_Jq_ok : COk Try.prog C_Jq := C_Jq_3_ok
end Go.Proofs.Ytemlpimibhijoaa
