/- The law on FoldItems, by the evaluator. Conditions: as each says. -/
import Derived.Test.YtemlpimibhijoaaJv
set_option linter.unusedSimpArgs false
set_option linter.unusedVariables false
namespace Go.Proofs.Ytemlpimibhijoaa
open Go.RowKit Sx
set_option maxRecDepth 100000
set_option maxHeartbeats 1000000
theorem itEnd_sixX : ∀ (xs : List tItem.den) (k : Int), (∀ z ∈ xs, itN z ≤ 6) → itEnd xs k ≤ k + 25 * (xs.length : Int)
  | [], _, _ => by simp [itEnd]
  | x :: xs, k, h => by
    have h1 := itEnd_sixX xs (k + 1 + 3 * (itN x : Int) + 1 + 1 + 1 + 1 + 1 + 1) fun z hz => h z (List.mem_cons_of_mem _ hz)
    have h2 := h x List.mem_cons_self
    simp only [itEnd, List.length_cons]
    omega
theorem itMark_NX : ∀ (xs : List tItem.den) (k : Int), (∀ z ∈ xs, itN z ≤ 16777216) → ∀ z ∈ itMark xs k, itN z ≤ 16777216
  | [], _, _, z, hz => by simp [itMark] at hz
  | x :: xs, k, h, z, hz => by
    simp only [itMark, List.mem_cons] at hz
    rcases hz with rfl | hz
    · rw [mk_self]; exact h x List.mem_cons_self
    · exact itMark_NX xs _ (fun z hz => h z (List.mem_cons_of_mem _ hz)) z hz
theorem itEnd_szFX : ∀ (xs : List tItem.den) (n k : Int), 0 ≤ n → ¬ szIt xs n < 0 → itEnd xs k ≤ k + 7 * (xs.length : Int) + 3 * (n - szIt xs n)
  | [], n, k, _, _ => by simp [itEnd, szIt]
  | x :: xs, n, k, h0, h1 => by
    simp only [szIt] at h1 ⊢
    by_cases h2 : n - pLen x.2.1 < 0
    · rw [if_pos h2] at h1; omega
    · rw [if_neg h2] at h1 ⊢
      have h3 := itEnd_szFX xs (n - pLen x.2.1) (k + 1 + 3 * (itN x : Int) + 1 + 1 + 1 + 1 + 1 + 1) (by omega) h1
      have h4 : (itN x : Int) = pLen x.2.1 := rfl
      simp only [itEnd, List.length_cons]
      omega
theorem pLen_itFX {x : tItem.den} {N : Int} (h : pLen x.2.1 ≤ N) : (itN x : Int) ≤ N := h
theorem heldI_markX (xs : List tItem.den) (k : Int) : heldI (itMark xs k) k = itEnd xs k := by
  simp [heldI, mark_mark, mark_end]
theorem foldS_mem {l : Its} : ∀ y ∈ (foldS l).1, itN y = 0 ∨ y ∈ l := fun y hy => by
  unfold foldS at hy
  split at hy
  · exact .inr (List.mem_of_mem_take hy)
  · rcases List.mem_cons.1 hy with rfl | hy
    · exact .inl rfl
    · exact .inr (List.mem_of_mem_take hy)
theorem foldL_N : ∀ (n : Nat) (l : Its), l.length ≤ n → (∀ z ∈ l, itN z ≤ 6) → ∀ y ∈ foldL l, itN y ≤ 6
  | 0, l, h, _, y, hy => by
    have : l = [] := List.eq_nil_of_length_eq_zero (by omega)
    subst this; simp [foldL, foldGo] at hy
  | n + 1, l, h, hg, y, hy => by
    by_cases h0 : l = []
    · subst h0; simp [foldL, foldGo] at hy
    · have hp := foldS_pos l h0
      rw [foldL_step l h0] at hy
      rcases List.mem_append.1 hy with hy | hy
      · rcases foldS_mem y hy with h | h
        · omega
        · exact hg y h
      · exact foldL_N n (l.drop (foldS l).2) (by simp; omega) (fun z hz => hg z (List.mem_of_mem_drop hz)) y hy
theorem foldA_N (l : Its) : ∀ y ∈ (foldA l).1, itN y ≤ 6 := by
  unfold foldA
  cases ho : okItems l
  · simp
  · cases hg : l.any grpB
    · simp only [if_true, Bool.false_eq_true, if_false]
      exact foldL_N l.length l (Nat.le_refl _) fun z hz => (plain_gd ho hg z hz).4
    · simp
theorem foldA_len (l : Its) : (foldA l).1.length ≤ 160 := by
  unfold foldA
  cases ho : okItems l
  · simp
  · cases hg : l.any grpB
    · simp only [if_true, Bool.false_eq_true, if_false]
      have h1 := foldL_len l.length l (Nat.le_refl _)
      have h2 := (okItems_vl ho).1
      omega
    · simp
def ct_lawFoldItems : Ct := ctOf [.v qItem] (fun ((xs : List tItem.den), _) => .p ((xs.length : Int) ≤ 9223372036854775807 ∧ ∀ z ∈ xs, pLen z.2.1 ≤ 9223372036854775807)) (fun ((xs : List tItem.den), _) => .bool true)
set_option maxHeartbeats 1000000 in
theorem sat_lawFoldItems : Sat Try.prog 5 ct_lawFoldItems := by
  refine sat_typed (C := C_Jv) (L := noL) (wr := false) mixedOk Try.func5 C_Jv_ok (loops0 (by kernel_rfl)) (fun _ => by first | rfl | (simp [ownsOf, ownsOf.ownsL, enc, encV, encS])) fun x hp => ?_
  obtain ⟨(xs : List tItem.den), _⟩ := x
  replace hp : (xs.length : Int) ≤ 9223372036854775807 ∧ ∀ z ∈ xs, pLen z.2.1 ≤ 9223372036854775807 := hp
  have htree : exFunc Try.prog C_Jv false noL Try.f5 (encA [.v qItem] (xs, ())) = .need ((((0 : Int) ≤ (1048576 : Int) ∧ (1048576 : Int) ≤ (1048576 : Int)) ∧ (↑xs.length : Int) ≤ (9223372036854775807 : Int)) ∧ ∀ (z : tItem.den), z ∈ xs → pLen z.snd.fst ≤ (9223372036854775807 : Int)) (.ite (decide ((if (1048576 : Int) - (↑xs.length : Int) < (0 : Int) then (-1 : Int) else szIt xs ((1048576 : Int) - (↑xs.length : Int))) < (0 : Int))) (.leaf [.lit true]) (.need (xs.length ≤ (16777216 : Nat) ∧ ∀ (z : tItem.den), z ∈ xs → pLen z.snd.fst ≤ (16777216 : Int)) (.need ((↑xs.length : Int) ≤ (9223372036854775807 : Int) ∧ ∀ (z : tItem.den), z ∈ xs → pLen z.snd.fst ≤ (9223372036854775807 : Int)) (.need (xs.length ≤ (16777216 : Nat) ∧ ∀ (z : tItem.den), z ∈ xs → pLen z.snd.fst ≤ (16777216 : Int)) (.need ((↑xs.length : Int) ≤ (9223372036854775807 : Int) ∧ ∀ (z : tItem.den), z ∈ xs → pLen z.snd.fst ≤ (9223372036854775807 : Int)) (.need ((↑(List.length (foldA xs).fst) : Int) ≤ (9223372036854775807 : Int) ∧ ∀ (z : tItem.den), z ∈ (foldA xs).fst → pLen z.snd.fst ≤ (9223372036854775807 : Int)) (.ite (!decide ((foldA xs).fst = (foldA xs).fst)) (.leaf [.lit false]) (.ite ((foldA xs).snd != (foldA xs).snd) (.leaf [.lit false]) (.need (xs.length ≤ (16777216 : Nat) ∧ ∀ (z : tItem.den), z ∈ xs → pLen z.snd.fst ≤ (16777216 : Int)) (.need ((↑xs.length : Int) ≤ (9223372036854775807 : Int) ∧ ∀ (z : tItem.den), z ∈ xs → pLen z.snd.fst ≤ (9223372036854775807 : Int)) (.ite (!decide (xs = xs)) (.leaf [.lit false]) (.need ((xs.length ≤ (16777216 : Nat) ∧ (0 : Int) ≤ (1 : Int) ∧ itEnd xs (1 : Int) ≤ (1000000000000 : Int)) ∧ ∀ (z : tItem.den), z ∈ xs → itN z ≤ (16777216 : Nat)) (.ite (decide (itEnd xs (1 : Int) < (0 : Int))) (.leaf [.lit false]) (.need ((↑(List.length (foldA xs).fst) : Int) ≤ (9223372036854775807 : Int) ∧ ∀ (z : tItem.den), z ∈ (foldA xs).fst → pLen z.snd.fst ≤ (9223372036854775807 : Int)) (.ite (!decide ((foldA xs).fst = (foldA xs).fst)) (.leaf [.lit false]) (.ite ((foldA xs).snd != (foldA xs).snd) (.leaf [.lit false]) (.need ((List.length (foldA xs).fst ≤ (16777216 : Nat) ∧ (0 : Int) ≤ (1 : Int) ∧ itEnd (foldA xs).fst (1 : Int) ≤ (1000000000000 : Int)) ∧ ∀ (z : tItem.den), z ∈ (foldA xs).fst → itN z ≤ (16777216 : Nat)) (.need (((itMark (foldA xs).fst (1 : Int)).length ≤ (16777216 : Nat) ∧ (0 : Int) ≤ (1 : Int) ∧ itEnd (itMark (foldA xs).fst (1 : Int)) (1 : Int) ≤ (1000000000000 : Int)) ∧ ∀ (z : tItem.den), z ∈ itMark (foldA xs).fst (1 : Int) → itN z ≤ (16777216 : Nat)) (.ite (decide (heldI (itMark (foldA xs).fst (1 : Int)) (1 : Int) < (0 : Int))) (.leaf [.lit false]) (.ite (heldI (itMark (foldA xs).fst (1 : Int)) (1 : Int) != itEnd (foldA xs).fst (1 : Int)) (.leaf [.lit false]) (.need (xs.length ≤ (16777216 : Nat) ∧ ∀ (z : tItem.den), z ∈ xs → pLen z.snd.fst ≤ (16777216 : Int)) (.need ((↑xs.length : Int) ≤ (9223372036854775807 : Int) ∧ ∀ (z : tItem.den), z ∈ xs → pLen z.snd.fst ≤ (9223372036854775807 : Int)) (.need ((↑(List.length (foldA xs).fst) : Int) ≤ (9223372036854775807 : Int) ∧ ∀ (z : tItem.den), z ∈ (foldA xs).fst → pLen z.snd.fst ≤ (9223372036854775807 : Int)) (.ite (!decide ((foldA xs).fst = (foldA xs).fst)) (.leaf [.lit false]) (.ite ((foldA xs).snd != (foldA xs).snd) (.leaf [.lit false]) (.need (((itMark (foldA xs).fst (1 : Int)).length ≤ (16777216 : Nat) ∧ (0 : Int) ≤ (1 : Int) ∧ itEnd (itMark (foldA xs).fst (1 : Int)) (1 : Int) ≤ (1000000000000 : Int)) ∧ ∀ (z : tItem.den), z ∈ itMark (foldA xs).fst (1 : Int) → itN z ≤ (16777216 : Nat)) (.ite (decide (heldI (itMark (foldA xs).fst (1 : Int)) (1 : Int) < (0 : Int))) (.leaf [.lit false]) (.ite (heldI (itMark (foldA xs).fst (1 : Int)) (1 : Int) != itEnd (foldA xs).fst (1 : Int)) (.leaf [.lit false]) (.leaf [.lit true]))))))))))))))))))))))))))))) := by kernel_rfl
  refine (congrArg (Tree.ok _) htree).mpr ?_
  clear htree
  have hN := foldA_N xs
  have hL := foldA_len xs
  have hE := itEnd_sixX (foldA xs).1 1 hN
  have hM := itMark_NX (foldA xs).1 1 (fun z hz => Nat.le_trans (hN z hz) (by omega))
  have hE0 := itEnd_le (foldA xs).1 1
  have hml : (itMark (foldA xs).1 1).length ≤ 16777216 := by rw [itMark_length]; omega
  simp only [Tree.ok, tyd_inj, packAV, AV.same, AV.same.sameL, encV, encS, enc, inK, Nd.ok, List.headD_cons, List.cons_append, List.nil_append, List.append_nil, true_and, and_true, Bool.true_and, Bool.and_true, heldI_markX, itMark_length, mark_end]
  obtain ⟨hx, hqx⟩ := hp
  have he0 := itEnd_le xs 1
  by_cases h1 : (1048576 : Int) - (xs.length : Int) < 0
  · simp only [if_pos h1]
    repeat' first | apply And.intro | intro _
    all_goals first | omega | trivial | exact hqx _ ‹_› | (simp_all; done)
  · simp only [if_neg h1]
    have h2 := szIt_low xs (1048576 - (xs.length : Int)) (by omega)
    have h3 := szIt_bound xs (1048576 - (xs.length : Int)) (by omega)
    have h7 := itEnd_szFX xs (1048576 - (xs.length : Int)) 1 (by omega)
    revert h2 h3 h7
    generalize szIt xs (1048576 - (xs.length : Int)) = s
    generalize itEnd xs 1 = e at *
    generalize foldA xs = V at *
    generalize itEnd V.1 1 = e2 at *
    intro h2 h3 h7
    by_cases h4 : s < 0
    · rw [decide_eq_true h4]
      repeat' first | apply And.intro | intro _
      all_goals first | omega | trivial | exact hqx _ ‹_› | (simp_all; done)
    · obtain ⟨h5, h6⟩ := h3 h4
      have h7 := h7 h4
      have h8 : ∀ z ∈ xs, itN z ≤ 16777216 := fun z hz => by
        have := pLen_itFX (h6 z hz); omega
      have h9 : ∀ z ∈ V.1, pLen z.2.1 ≤ 6 := fun z hz => by
        have := hN z hz
        show (itN z : Int) ≤ 6
        omega
      repeat' first | apply And.intro | intro _
      all_goals first | omega | trivial | exact hml | exact hqx _ ‹_› | exact h8 _ ‹_› | exact hM _ ‹_› | exact Nat.le_trans (hN _ ‹_›) (by omega) | (have := h6 _ ‹_›; omega) | (have := h9 _ ‹_›; omega) | (simp_all; done) | (simp_all; omega)
def C_Jx_1 : FuncId → Option Ct := addC 5 ct_lawFoldItems C_Jv
theorem C_Jx_1_ok : COk Try.prog C_Jx_1 := addC_ok C_Jv_ok sat_lawFoldItems

def C_Jx : FuncId → Option Ct := C_Jx_1
theorem C_Jx_ok : COk Try.prog C_Jx := C_Jx_1_ok
end Go.Proofs.Ytemlpimibhijoaa
