/- Contracts: what the laws draw: tempo maps and beats, a number out of bytes. Conditions: as each says. -/
import Derived.Test.YtjgjcggecikdpaaDt
set_option linter.unusedSimpArgs false
set_option linter.unusedVariables false
namespace Go.Proofs.Ytjgjcggecikdpaa
open Go.RowKit Sx
set_option maxRecDepth 100000
set_option maxHeartbeats 1000000
def bytesOk (l : List Int) : Prop := ∀ z ∈ l, 0 ≤ z ∧ z ≤ 255
theorem from_ok {l : List Int} (h : bytesOk l) : okS ((l, 0, 0) : Src) 0 := ⟨by simp, by simp, h⟩
theorem tmapS_ok {s : Src} {m : Int} (h : okS s m) : okS (tmapS s).2 (m + 26) := by
  have hb := pickS_bd h 4
  have h1 := hb.2.1 (by omega)
  have := drawT_ok (1 + (pickS s 4).1).toNat (0, 1) (pickS_ok h 4)
  exact this.mono (by omega)
def A2T (l : List Int) : List tTempo.den × Fr × Fr :=
  ((tmapS (l, 0, 0)).1, (beatS (tmapS (l, 0, 0)).2 10).1, (beatS (beatS (tmapS (l, 0, 0)).2 10).2 10).1)
def ct_a2Long : Ct := ctOf [.v (.seq (.int .u8)), .v (.seq (.int .u8))] (fun _ => .tt) (fun ((code : List (Ty.int .u8).den), (more : List (Ty.int .u8).den), _) => .bool (decide ((3000 : Int) < (code.length : Int)) || decide ((3000 : Int) < (more.length : Int))))
set_option maxHeartbeats 1000000 in
theorem sat_a2Long : Sat Try.prog 13 ct_a2Long := by
  refine sat_typed (C := C_Dt) (L := noL) (wr := false) mixedOk Try.func13 C_Dt_ok (loops0 (by kernel_rfl)) (fun _ => by first | rfl | (simp [ownsOf, ownsOf.ownsL, enc, encV, encS])) fun x hp => ?_
  obtain ⟨(code : List (Ty.int .u8).den), (more : List (Ty.int .u8).den), _⟩ := x
  clear hp
  have htree : exFunc Try.prog C_Dt false noL Try.f13 (encA [.v (.seq (.int .u8)), .v (.seq (.int .u8))] (code, more, ())) = .ite (decide ((3000 : Int) < (↑code.length : Int))) (.leaf [.lit true]) (.leaf [.bool (decide ((3000 : Int) < (↑more.length : Int)))]) := by kernel_rfl
  refine (congrArg (Tree.ok _) htree).mpr ?_
  clear htree
  simp only [Tree.ok, tyd_inj, packAV, AV.same, AV.same.sameL, encV, encS, enc, inK, Nd.ok, List.headD_cons, List.cons_append, List.nil_append, List.append_nil, true_and, and_true, Bool.true_and, Bool.and_true]
  repeat' first | apply And.intro | intro _
  all_goals (simp_all; try omega)
def C_Du_1 : FuncId → Option Ct := addC 13 ct_a2Long C_Dt
theorem C_Du_1_ok : COk Try.prog C_Du_1 := addC_ok C_Dt_ok sat_a2Long
def a2At (l : List Int) (i n : Int) : Int := if (l.length : Int) ≤ i ∨ n < 1 then 0 else l.getD i.toNat 0 % n
theorem a2At_bd {l : List Int} (h : bytesOk l) {i : Int} (hi : 0 ≤ i) (n : Int) : 0 ≤ a2At l i n ∧ (1 ≤ n → a2At l i n ≤ n - 1) := by
  unfold a2At
  split
  · exact ⟨by omega, fun _ => by omega⟩
  · rename_i hc
    have e1 := Int.emod_nonneg (l.getD i.toNat 0) (b := n) (by omega)
    have e2 := Int.emod_lt_of_pos (l.getD i.toNat 0) (b := n) (by omega)
    exact ⟨e1, fun _ => by omega⟩
def ct_a2At : Ct := ctOf [.v (.seq (.int .u8)), .v (.int .i64), .v (.int .i64)] (fun ((code : List (Ty.int .u8).den), (i : Int), (n : Int), _) => .p (bytesOk code ∧ 0 ≤ i)) (fun ((code : List (Ty.int .u8).den), (i : Int), (n : Int), _) => .int .i64 (a2At code i n))
set_option maxHeartbeats 1000000 in
theorem sat_a2At : Sat Try.prog 15 ct_a2At := by
  refine sat_typed (C := C_Du_1) (L := noL) (wr := false) mixedOk Try.func15 C_Du_1_ok (loops0 (by kernel_rfl)) (fun _ => by first | rfl | (simp [ownsOf, ownsOf.ownsL, enc, encV, encS])) fun x hp => ?_
  obtain ⟨(code : List (Ty.int .u8).den), (i : Int), (n : Int), _⟩ := x
  replace hp : bytesOk code ∧ 0 ≤ i := hp
  have htree : exFunc Try.prog C_Du_1 false noL Try.f15 (encA [.v (.seq (.int .u8)), .v (.int .i64), .v (.int .i64)] (code, i, n, ())) = .ite (decide ((↑code.length : Int) ≤ i)) (.leaf [.int .i64 ((0 : Int))]) (.ite (decide (n < (1 : Int))) (.leaf [.int .i64 ((0 : Int))]) (.need ((0 : Int) ≤ i ∧ i < (↑code.length : Int)) (.need (inK IntKind.i64 (getT (Ty.int IntKind.u8) code i)) (.need (n ≠ (0 : Int)) (.leaf [.int .i64 (Int.tmod (getT (Ty.int IntKind.u8) code i) n)]))))) := by kernel_rfl
  refine (congrArg (Tree.ok _) htree).mpr ?_
  clear htree
  have hg : getT (Ty.int .u8) code i = (code : List Int).getD i.toNat 0 := rfl
  have hv : a2At code i n = if (code.length : Int) ≤ i ∨ n < 1 then 0 else (code : List Int).getD i.toNat 0 % n := rfl
  simp only [Tree.ok, tyd_inj, packAV, AV.same, AV.same.sameL, encV, encS, enc, inK, Nd.ok, List.headD_cons, List.cons_append, List.nil_append, List.append_nil, true_and, and_true, Bool.true_and, Bool.and_true, hg, hv, decide_eq_true_eq, decide_eq_false_iff_not]
  by_cases h1 : (code.length : Int) ≤ i
  · rw [if_pos (Or.inl h1)]
    exact ⟨fun _ => rfl, fun h => absurd h1 h⟩
  · by_cases h2 : n < 1
    · rw [if_pos (Or.inr h2)]
      exact ⟨fun h => absurd h h1, fun _ => ⟨fun _ => rfl, fun h => absurd h2 h⟩⟩
    · rw [if_neg (by omega)]
      have hb : 0 ≤ (code : List Int).getD i.toNat 0 ∧ (code : List Int).getD i.toNat 0 ≤ 255 := by
        rw [getD_lt _ _ _ (by omega)]
        exact hp.1 _ (List.getElem_mem _)
      refine ⟨fun h => absurd h h1, fun _ => ⟨fun h => absurd h h2, fun _ => ?_⟩⟩
      refine ⟨⟨hp.2, by omega⟩, (show (-9223372036854775808 : Int) ≤ (code : List Int).getD i.toNat 0 ∧ (code : List Int).getD i.toNat 0 ≤ 9223372036854775807 from ⟨Int.le_trans (by decide) hb.1, Int.le_trans hb.2 (by decide)⟩), by omega, ?_⟩
      exact Int.tmod_eq_emod_of_nonneg hb.1
def C_Du_2 : FuncId → Option Ct := addC 15 ct_a2At C_Du_1
theorem C_Du_2_ok : COk Try.prog C_Du_2 := addC_ok C_Du_1_ok sat_a2At

def C_Du : FuncId → Option Ct := C_Du_2
theorem C_Du_ok : COk Try.prog C_Du := C_Du_2_ok
end Go.Proofs.Ytjgjcggecikdpaa
