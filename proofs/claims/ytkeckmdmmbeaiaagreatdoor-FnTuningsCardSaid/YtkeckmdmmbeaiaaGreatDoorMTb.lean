/- Several texts of contracts in one: Du Rd Fm QM NkL NkM Nk QD QU Tu. Conditions: as each says. -/
import Derived.Test.YtkeckmdmmbeaiaaGreatDoorDt
import Derived.Test.YtkeckmdmmbeaiaaGreatDoorRc
import Derived.Test.YtkeckmdmmbeaiaaGreatDoorFl
import Derived.Test.YtkeckmdmmbeaiaaGreatDoorRdL
import Derived.Test.YtkeckmdmmbeaiaaGreatDoorSxP
import Derived.Test.YtkeckmdmmbeaiaaGreatDoorFi
import Derived.Test.YtkeckmdmmbeaiaaGreatDoorQL
import Derived.Test.YtkeckmdmmbeaiaaGreatDoorDs
import Derived.Test.YtkeckmdmmbeaiaaGreatDoorRf
import Derived.Test.YtkeckmdmmbeaiaaGreatDoorUw
set_option linter.unusedSimpArgs false
set_option linter.unusedVariables false
namespace Go.Proofs.YtkeckmdmmbeaiaaGreatDoor
open Go.RowKit Sx
set_option maxRecDepth 100000
set_option maxHeartbeats 1000000
def bytesOk (l : List Int) : Prop := ∀ z ∈ l, 0 ≤ z ∧ z ≤ 255
theorem from_ok {l : List Int} (h : bytesOk l) : okS ((l, 0, 0) : Src) 0 := ⟨by simp, by simp, h⟩
theorem tmapS_ok {s : Src} {m : Int} (h : okS s m) : okS (tmapS s).2 (m + 26) := by
  have hb := pickS_bd h 4
  have h1 := hb.2.1 (by omega)
  have := drawT_ok (1 + (pickS s 4).1).toNat (0, 1) (pickS_ok h 4)
  exact this.mono (by omega)
def A2T (l : List Int) : List tTempo.den × Fr × Fr :=
  ((tmapS (l, 0, 0)).1, (beatS (tmapS (l, 0, 0)).2 10).1, (beatS (beatS (tmapS (l, 0, 0)).2 10).2 10).1)
def ct_A2Tempos : Ct := ctOf [.v (.seq (.int .u8))] (fun ((code : List (Ty.int .u8).den), _) => .p (bytesOk code)) (fun ((code : List (Ty.int .u8).den), _) => .tup [.agg [.own tTempo (A2T code).1], .agg (enc tFrac (A2T code).2.1), .agg (enc tFrac (A2T code).2.2)])
set_option maxHeartbeats 1000000 in
theorem sat_A2Tempos : Sat Tryz.prog 13 ct_A2Tempos := by
  refine sat_typed (C := C_Dt) (L := noL) (wr := false) mixedOk Tryz.func13 C_Dt_ok (loops0 (by kernel_rfl)) (fun _ => by first | rfl | (simp [ownsOf, ownsOf.ownsL, enc, encV, encS])) fun x hp => ?_
  obtain ⟨(code : List (Ty.int .u8).den), _⟩ := x
  replace hp : bytesOk code := hp
  have htree : exFunc Tryz.prog C_Dt false noL Tryz.f13 (encA [.v (.seq (.int .u8))] (code, ())) = .need (okS (code, (0 : I64.den), (0 : (Ty.int IntKind.u64).den)) (700000000 : Int)) (.need (okS ((tmapS (code, (0 : I64.den), (0 : (Ty.int IntKind.u64).den))).snd.fst, (tmapS (code, (0 : I64.den), (0 : (Ty.int IntKind.u64).den))).snd.snd.fst, (tmapS (code, (0 : I64.den), (0 : (Ty.int IntKind.u64).den))).snd.snd.snd) (800000000 : Int) ∧ (0 : Int) ≤ (10 : Int) ∧ (10 : Int) ≤ (1000 : Int)) (.need (okS ((beatS ((tmapS (code, (0 : I64.den), (0 : (Ty.int IntKind.u64).den))).snd.fst, (tmapS (code, (0 : I64.den), (0 : (Ty.int IntKind.u64).den))).snd.snd.fst, (tmapS (code, (0 : I64.den), (0 : (Ty.int IntKind.u64).den))).snd.snd.snd) (10 : Int)).snd.fst, (beatS ((tmapS (code, (0 : I64.den), (0 : (Ty.int IntKind.u64).den))).snd.fst, (tmapS (code, (0 : I64.den), (0 : (Ty.int IntKind.u64).den))).snd.snd.fst, (tmapS (code, (0 : I64.den), (0 : (Ty.int IntKind.u64).den))).snd.snd.snd) (10 : Int)).snd.snd.fst, (beatS ((tmapS (code, (0 : I64.den), (0 : (Ty.int IntKind.u64).den))).snd.fst, (tmapS (code, (0 : I64.den), (0 : (Ty.int IntKind.u64).den))).snd.snd.fst, (tmapS (code, (0 : I64.den), (0 : (Ty.int IntKind.u64).den))).snd.snd.snd) (10 : Int)).snd.snd.snd) (800000000 : Int) ∧ (0 : Int) ≤ (10 : Int) ∧ (10 : Int) ≤ (1000 : Int)) (.leaf [.agg [.own (tFrac.pair I64) ((tmapS (code, (0 : I64.den), (0 : (Ty.int IntKind.u64).den))).fst)], .agg [.int .i64 ((beatS ((tmapS (code, (0 : I64.den), (0 : (Ty.int IntKind.u64).den))).snd.fst, (tmapS (code, (0 : I64.den), (0 : (Ty.int IntKind.u64).den))).snd.snd.fst, (tmapS (code, (0 : I64.den), (0 : (Ty.int IntKind.u64).den))).snd.snd.snd) (10 : Int)).fst.fst), .int .i64 ((beatS ((tmapS (code, (0 : I64.den), (0 : (Ty.int IntKind.u64).den))).snd.fst, (tmapS (code, (0 : I64.den), (0 : (Ty.int IntKind.u64).den))).snd.snd.fst, (tmapS (code, (0 : I64.den), (0 : (Ty.int IntKind.u64).den))).snd.snd.snd) (10 : Int)).fst.snd)], .agg [.int .i64 ((beatS ((beatS ((tmapS (code, (0 : I64.den), (0 : (Ty.int IntKind.u64).den))).snd.fst, (tmapS (code, (0 : I64.den), (0 : (Ty.int IntKind.u64).den))).snd.snd.fst, (tmapS (code, (0 : I64.den), (0 : (Ty.int IntKind.u64).den))).snd.snd.snd) (10 : Int)).snd.fst, (beatS ((tmapS (code, (0 : I64.den), (0 : (Ty.int IntKind.u64).den))).snd.fst, (tmapS (code, (0 : I64.den), (0 : (Ty.int IntKind.u64).den))).snd.snd.fst, (tmapS (code, (0 : I64.den), (0 : (Ty.int IntKind.u64).den))).snd.snd.snd) (10 : Int)).snd.snd.fst, (beatS ((tmapS (code, (0 : I64.den), (0 : (Ty.int IntKind.u64).den))).snd.fst, (tmapS (code, (0 : I64.den), (0 : (Ty.int IntKind.u64).den))).snd.snd.fst, (tmapS (code, (0 : I64.den), (0 : (Ty.int IntKind.u64).den))).snd.snd.snd) (10 : Int)).snd.snd.snd) (10 : Int)).fst.fst), .int .i64 ((beatS ((beatS ((tmapS (code, (0 : I64.den), (0 : (Ty.int IntKind.u64).den))).snd.fst, (tmapS (code, (0 : I64.den), (0 : (Ty.int IntKind.u64).den))).snd.snd.fst, (tmapS (code, (0 : I64.den), (0 : (Ty.int IntKind.u64).den))).snd.snd.snd) (10 : Int)).snd.fst, (beatS ((tmapS (code, (0 : I64.den), (0 : (Ty.int IntKind.u64).den))).snd.fst, (tmapS (code, (0 : I64.den), (0 : (Ty.int IntKind.u64).den))).snd.snd.fst, (tmapS (code, (0 : I64.den), (0 : (Ty.int IntKind.u64).den))).snd.snd.snd) (10 : Int)).snd.snd.fst, (beatS ((tmapS (code, (0 : I64.den), (0 : (Ty.int IntKind.u64).den))).snd.fst, (tmapS (code, (0 : I64.den), (0 : (Ty.int IntKind.u64).den))).snd.snd.fst, (tmapS (code, (0 : I64.den), (0 : (Ty.int IntKind.u64).den))).snd.snd.snd) (10 : Int)).snd.snd.snd) (10 : Int)).fst.snd)]]))) := by kernel_rfl
  refine (congrArg (Tree.ok _) htree).mpr ?_
  clear htree
  have eta : ∀ s : Src, (s.1, s.2.1, s.2.2) = s := fun _ => rfl
  have h0 := from_ok hp
  have h1 := tmapS_ok h0
  have h2 := beatS_ok h1 10
  simp only [Tree.ok, tyd_inj, packAV, AV.same, AV.same.sameL, encV, encS, enc, inK, Nd.ok, List.headD_cons, List.cons_append, List.nil_append, List.append_nil, true_and, and_true, Bool.true_and, Bool.and_true, eta]
  refine ⟨h0.mono (by omega), ⟨h1.mono (by omega), by decide, by decide⟩, ⟨h2.mono (by omega), by decide, by decide⟩, ?_⟩
  repeat' apply And.intro
  all_goals rfl
def C_Du_1 : FuncId → Option Ct := addC 13 ct_A2Tempos C_Dt
theorem C_Du_1_ok : COk Tryz.prog C_Du_1 := addC_ok C_Dt_ok sat_A2Tempos
def ct_a2Long : Ct := ctOf [.v (.seq (.int .u8)), .v (.seq (.int .u8))] (fun _ => .tt) (fun ((code : List (Ty.int .u8).den), (more : List (Ty.int .u8).den), _) => .bool (decide ((3000 : Int) < (code.length : Int)) || decide ((3000 : Int) < (more.length : Int))))
set_option maxHeartbeats 1000000 in
theorem sat_a2Long : Sat Tryz.prog 12 ct_a2Long := by
  refine sat_typed (C := C_Du_1) (L := noL) (wr := false) mixedOk Tryz.func12 C_Du_1_ok (loops0 (by kernel_rfl)) (fun _ => by first | rfl | (simp [ownsOf, ownsOf.ownsL, enc, encV, encS])) fun x hp => ?_
  obtain ⟨(code : List (Ty.int .u8).den), (more : List (Ty.int .u8).den), _⟩ := x
  clear hp
  have htree : exFunc Tryz.prog C_Du_1 false noL Tryz.f12 (encA [.v (.seq (.int .u8)), .v (.seq (.int .u8))] (code, more, ())) = .ite (decide ((3000 : Int) < (↑code.length : Int))) (.leaf [.lit true]) (.leaf [.bool (decide ((3000 : Int) < (↑more.length : Int)))]) := by kernel_rfl
  refine (congrArg (Tree.ok _) htree).mpr ?_
  clear htree
  simp only [Tree.ok, tyd_inj, packAV, AV.same, AV.same.sameL, encV, encS, enc, inK, Nd.ok, List.headD_cons, List.cons_append, List.nil_append, List.append_nil, true_and, and_true, Bool.true_and, Bool.and_true]
  repeat' first | apply And.intro | intro _
  all_goals (simp_all; try omega)
def C_Du_2 : FuncId → Option Ct := addC 12 ct_a2Long C_Du_1
theorem C_Du_2_ok : COk Tryz.prog C_Du_2 := addC_ok C_Du_1_ok sat_a2Long
def a2At (l : List Int) (i n : Int) : Int := if (l.length : Int) ≤ i ∨ n < 1 then 0 else l.getD i.toNat 0 % n
theorem a2At_bd {l : List Int} (h : bytesOk l) {i : Int} (hi : 0 ≤ i) (n : Int) : 0 ≤ a2At l i n ∧ (1 ≤ n → a2At l i n ≤ n - 1) := by
  unfold a2At
  split
  · exact ⟨by omega, fun _ => by omega⟩
  · rename_i hc
    have e1 := Int.emod_nonneg (l.getD i.toNat 0) (b := n) (by omega)
    have e2 := Int.emod_lt_of_pos (l.getD i.toNat 0) (b := n) (by omega)
    exact ⟨e1, fun _ => by omega⟩
def ct_a2At : Ct := ctOf [.v (.seq (.int .u8)), .v (.int .i64), .v (.int .i64)] (fun ((code : List (Ty.int .u8).den), (i : Int), (n : Int), _) => .p (bytesOk code ∧ 0 ≤ i)) (fun ((code : List (Ty.int .u8).den), (i : Int), (n : Int), _) => .int .i64 (a2At code i n))
set_option maxHeartbeats 1000000 in
theorem sat_a2At : Sat Tryz.prog 22 ct_a2At := by
  refine sat_typed (C := C_Du_2) (L := noL) (wr := false) mixedOk Tryz.func22 C_Du_2_ok (loops0 (by kernel_rfl)) (fun _ => by first | rfl | (simp [ownsOf, ownsOf.ownsL, enc, encV, encS])) fun x hp => ?_
  obtain ⟨(code : List (Ty.int .u8).den), (i : Int), (n : Int), _⟩ := x
  replace hp : bytesOk code ∧ 0 ≤ i := hp
  have htree : exFunc Tryz.prog C_Du_2 false noL Tryz.f22 (encA [.v (.seq (.int .u8)), .v (.int .i64), .v (.int .i64)] (code, i, n, ())) = .ite (decide ((↑code.length : Int) ≤ i)) (.leaf [.int .i64 ((0 : Int))]) (.ite (decide (n < (1 : Int))) (.leaf [.int .i64 ((0 : Int))]) (.need ((0 : Int) ≤ i ∧ i < (↑code.length : Int)) (.need (inK IntKind.i64 (getT (Ty.int IntKind.u8) code i)) (.need (n ≠ (0 : Int)) (.leaf [.int .i64 (Int.tmod (getT (Ty.int IntKind.u8) code i) n)]))))) := by kernel_rfl
  refine (congrArg (Tree.ok _) htree).mpr ?_
  clear htree
  have hg : getT (Ty.int .u8) code i = (code : List Int).getD i.toNat 0 := rfl
  have hv : a2At code i n = if (code.length : Int) ≤ i ∨ n < 1 then 0 else (code : List Int).getD i.toNat 0 % n := rfl
  simp only [Tree.ok, tyd_inj, packAV, AV.same, AV.same.sameL, encV, encS, enc, inK, Nd.ok, List.headD_cons, List.cons_append, List.nil_append, List.append_nil, true_and, and_true, Bool.true_and, Bool.and_true, hg, hv, decide_eq_true_eq, decide_eq_false_iff_not]
  by_cases h1 : (code.length : Int) ≤ i
  · rw [if_pos (Or.inl h1)]
    exact ⟨fun _ => rfl, fun h => absurd h1 h⟩
  · by_cases h2 : n < 1
    · rw [if_pos (Or.inr h2)]
      exact ⟨fun h => absurd h h1, fun _ => ⟨fun _ => rfl, fun h => absurd h2 h⟩⟩
    · rw [if_neg (by omega)]
      have hb : 0 ≤ (code : List Int).getD i.toNat 0 ∧ (code : List Int).getD i.toNat 0 ≤ 255 := by
        rw [getD_lt _ _ _ (by omega)]
        exact hp.1 _ (List.getElem_mem _)
      refine ⟨fun h => absurd h h1, fun _ => ⟨fun h => absurd h h2, fun _ => ?_⟩⟩
      refine ⟨⟨hp.2, by omega⟩, (show (-9223372036854775808 : Int) ≤ (code : List Int).getD i.toNat 0 ∧ (code : List Int).getD i.toNat 0 ≤ 9223372036854775807 from ⟨Int.le_trans (by decide) hb.1, Int.le_trans hb.2 (by decide)⟩), by omega, ?_⟩
      exact Int.tmod_eq_emod_of_nonneg hb.1
def C_Du_3 : FuncId → Option Ct := addC 22 ct_a2At C_Du_2
theorem C_Du_3_ok : COk Tryz.prog C_Du_3 := addC_ok C_Du_2_ok sat_a2At

def C_Du : FuncId → Option Ct := C_Du_3
theorem C_Du_ok : COk Tryz.prog C_Du := C_Du_3_ok
end Go.Proofs.YtkeckmdmmbeaiaaGreatDoor
namespace Go.Proofs.YtkeckmdmmbeaiaaGreatDoor
open Go.RowKit Sx
set_option maxRecDepth 100000
set_option maxHeartbeats 1000000
theorem stackF_valid {b o g : Fr} {n : Int} (h : (stackF b o g n).2 = 0) : tuneF (stackF b o g n).1 = true := by
  unfold stackF at *
  split at h
  · rename_i h1
    rw [if_pos h1]
    split at h
    · simp at h
    · rename_i h2
      rw [if_neg h2]
      split at h
      · rename_i h3
        rw [if_pos h3]
        split at h
        · rename_i h4
          rw [if_pos h4]; exact h4
        · simp at h
      · simp at h
  · simp at h
theorem restX_valid {B O : Fr} {d : Int × Src} {m : Int} (hB : PosF B) (hO : OctF O) (h : okS d.2 m) : tuneF (restX B O d).1 = true := (tuneN_ok B O d.1.toNat h (tune_one hB hO)).2
theorem octX_ok {O : Fr} (h : PosF O) : OctF (octX O) := by
  unfold octX
  split
  · exact oct_two
  · rename_i hc
    exact ⟨h.ok, Int.not_le.1 hc⟩
theorem tuneS_valid {s : Src} {m : Int} (h0 : okS s m) : tuneF (tuneS s).1 = true := by
  have hb1 := pickS_bd h0 40
  have h1 := pickS_ok h0 40
  rw [show tuneS s = tuneA (pickS s 40) from rfl]
  generalize pickS s 40 = d1 at *
  rw [show tuneA d1 = tuneB d1 (amongS d1.2 [1, 1, 2, 3]) from rfl]
  have m2 := amongS_mem h1 [1, 1, 2, 3] (by decide)
  have h2 := amongS_ok h1 [1, 1, 2, 3]
  generalize amongS d1.2 [1, 1, 2, 3] = d2 at *
  rw [show tuneB d1 d2 = tuneC (mkF (1 + d1.1) d2.1).1 (amongS d2.2 [2, 2, 2, 3, 3, 7]) from rfl]
  have m3 := amongS_mem h2 [2, 2, 2, 3, 3, 7] (by decide)
  have h3 := amongS_ok h2 [2, 2, 2, 3, 3, 7]
  generalize amongS d2.2 [2, 2, 2, 3, 3, 7] = d3 at *
  simp only [List.mem_cons, List.not_mem_nil, or_false] at m2 m3
  have q1 := hb1.2.1 (by omega)
  have hB := (mk_pos (n := 1 + d1.1) (d := d2.1) (by omega) (by omega)).2
  generalize mkF (1 + d1.1) d2.1 = B at *
  rw [show tuneC B.1 d3 = tuneD B.1 d3 (amongS d3.2 [1, 1, 1, 2]) from rfl]
  have m4 := amongS_mem h3 [1, 1, 1, 2] (by decide)
  have h4 := amongS_ok h3 [1, 1, 1, 2]
  generalize amongS d3.2 [1, 1, 1, 2] = d4 at *
  simp only [List.mem_cons, List.not_mem_nil, or_false] at m4
  rw [show tuneD B.1 d3 d4 = tuneE B.1 (octX (mkF d3.1 d4.1).1) (pickS d4.2 3) from rfl]
  have hO := octX_ok (mk_pos (n := d3.1) (d := d4.1) (by omega) (by omega)).2
  generalize octX (mkF d3.1 d4.1).1 = O at *
  have h5 := pickS_ok h4 3
  generalize pickS d4.2 3 = d5 at *
  unfold tuneE
  split
  · unfold tuneG tuneH tuneI tuneJ
    split
    · rename_i hT
      exact stackF_valid hT
    · exact restX_valid hB hO (pickS_ok (pickS_ok (amongS_ok (amongS_ok h5 _) _) 8) 8)
  · exact restX_valid hB hO (pickS_ok h5 8)
def A2U (l : List Int) : tTuning.den := (tuneS (l, 0, 0)).1
theorem A2U_valid {l : List Int} (h : bytesOk l) : tuneF (A2U l) = true := tuneS_valid (from_ok h)
def ct_A2Tuning : Ct := ctOf [.v (.seq (.int .u8))] (fun ((code : List (Ty.int .u8).den), _) => .p (bytesOk code)) (fun ((code : List (Ty.int .u8).den), _) => .agg [.int .i64 (A2U code).1.1, .int .i64 (A2U code).1.2, .int .i64 (A2U code).2.1.1, .int .i64 (A2U code).2.1.2, .own tFrac (A2U code).2.2])
set_option maxHeartbeats 1000000 in
theorem sat_A2Tuning : Sat Tryz.prog 21 ct_A2Tuning := by
  refine sat_typed (C := C_Rc) (L := noL) (wr := false) mixedOk Tryz.func21 C_Rc_ok (loops0 (by kernel_rfl)) (fun _ => by first | rfl | (simp [ownsOf, ownsOf.ownsL, enc, encV, encS])) fun x hp => ?_
  obtain ⟨(code : List (Ty.int .u8).den), _⟩ := x
  replace hp : bytesOk code := hp
  have htree : exFunc Tryz.prog C_Rc false noL Tryz.f21 (encA [.v (.seq (.int .u8))] (code, ())) = .need (okS (code, (0 : I64.den), (0 : (Ty.int IntKind.u64).den)) (600000000 : Int)) (.leaf [.agg [.int .i64 ((tuneS (code, (0 : I64.den), (0 : (Ty.int IntKind.u64).den))).fst.fst.fst), .int .i64 ((tuneS (code, (0 : I64.den), (0 : (Ty.int IntKind.u64).den))).fst.fst.snd), .int .i64 ((tuneS (code, (0 : I64.den), (0 : (Ty.int IntKind.u64).den))).fst.snd.fst.fst), .int .i64 ((tuneS (code, (0 : I64.den), (0 : (Ty.int IntKind.u64).den))).fst.snd.fst.snd), .own (I64.pair I64) ((tuneS (code, (0 : I64.den), (0 : (Ty.int IntKind.u64).den))).fst.snd.snd)]]) := by kernel_rfl
  refine (congrArg (Tree.ok _) htree).mpr ?_
  clear htree
  have h0 := from_ok hp
  have h1 := h0.mono (show (0 : Int) ≤ 600000000 by omega)
  have e : A2U code = (tuneS (code, 0, 0)).1 := rfl
  simp only [Tree.ok, tyd_inj, packAV, AV.same, AV.same.sameL, encV, encS, enc, inK, Nd.ok, List.headD_cons, List.cons_append, List.nil_append, List.append_nil, true_and, and_true, Bool.true_and, Bool.and_true, e]
  repeat' first | apply And.intro | intro _
  all_goals first | exact h1 | omega | rfl | trivial
def C_Rd_1 : FuncId → Option Ct := addC 21 ct_A2Tuning C_Rc
theorem C_Rd_1_ok : COk Tryz.prog C_Rd_1 := addC_ok C_Rc_ok sat_A2Tuning

def C_Rd : FuncId → Option Ct := C_Rd_1
theorem C_Rd_ok : COk Tryz.prog C_Rd := C_Rd_1_ok
end Go.Proofs.YtkeckmdmmbeaiaaGreatDoor
namespace Go.Proofs.YtkeckmdmmbeaiaaGreatDoor
open Go.RowKit Sx
set_option maxRecDepth 100000
set_option maxHeartbeats 1000000
def modeAt (x : tTuning.den) (d i : Nat) : Fr × Int := if (x.2.2 : List tFrac.den).length ≤ d + i then (if (mulF (atF x.2.2 ((d + i) % (x.2.2 : List tFrac.den).length)).1 (atF x.2.2 ((d + i) % (x.2.2 : List tFrac.den).length)).2 x.2.1.1 x.2.1.2).2 = 0 then divF (mulF (atF x.2.2 ((d + i) % (x.2.2 : List tFrac.den).length)).1 (atF x.2.2 ((d + i) % (x.2.2 : List tFrac.den).length)).2 x.2.1.1 x.2.1.2).1.1 (mulF (atF x.2.2 ((d + i) % (x.2.2 : List tFrac.den).length)).1 (atF x.2.2 ((d + i) % (x.2.2 : List tFrac.den).length)).2 x.2.1.1 x.2.1.2).1.2 (atF x.2.2 d).1 (atF x.2.2 d).2 else ((0, 0), 2)) else divF (atF x.2.2 ((d + i) % (x.2.2 : List tFrac.den).length)).1 (atF x.2.2 ((d + i) % (x.2.2 : List tFrac.den).length)).2 (atF x.2.2 d).1 (atF x.2.2 d).2
def modeGo (x : tTuning.den) (d : Nat) : Nat → Nat → List Fr × Int
  | 0, _ => ([], 0)
  | n + 1, i => if (modeAt x d i).2 = 0 then ((modeAt x d i).1 :: (modeGo x d n (i + 1)).1, (modeGo x d n (i + 1)).2) else ([], 2)
def modeF (x : tTuning.den) (deg : Int) : tTuning.den × Int := if tuneF x = true then (if 0 ≤ deg ∧ deg ≤ ((x.2.2 : List tFrac.den).length : Int) - 1 then (if (modeGo x deg.toNat (x.2.2 : List tFrac.den).length 0).2 = 0 then ((x.1, x.2.1, (modeGo x deg.toNat (x.2.2 : List tFrac.den).length 0).1), 0) else (((0, 0), (0, 0), []), 2)) else (((0, 0), (0, 0), []), 2)) else (((0, 0), (0, 0), []), 1)
theorem modeGo_at (x : tTuning.den) (d n i : Nat) (h : i < n) : modeGo x d (n - i) i = if (modeAt x d i).2 = 0 then ((modeAt x d i).1 :: (modeGo x d (n - (i + 1)) (i + 1)).1, (modeGo x d (n - (i + 1)) (i + 1)).2) else ([], 2) := by
  rw [show n - i = (n - (i + 1)) + 1 by omega]; rfl
theorem modeGo_len (x : tTuning.den) (d : Nat) : ∀ n i : Nat, (modeGo x d n i).1.length ≤ n
  | 0, _ => Nat.le_refl _
  | n + 1, i => by
    have := modeGo_len x d n (i + 1)
    unfold modeGo
    split <;> simp <;> omega
theorem modeF_len (x : tTuning.den) (d : Int) : ((modeF x d).1.2.2 : List tFrac.den).length ≤ 24 := by
  unfold modeF
  split
  · rename_i h
    have hb := tune_bd h
    split
    · split
      · have := modeGo_len x d.toNat (x.2.2 : List tFrac.den).length 0
        simp only; omega
      · simp
    · simp
  · simp

def C_Fm : FuncId → Option Ct := C_Fl
theorem C_Fm_ok : COk Tryz.prog C_Fm := C_Fl_ok
end Go.Proofs.YtkeckmdmmbeaiaaGreatDoor
namespace Go.Proofs.YtkeckmdmmbeaiaaGreatDoor
open Go.RowKit Sx
theorem rat_iff (rs : List tFrac.den) (a b : Int) : ∀ n i : Nat, i + n = rs.length → (ratT rs a b n i = true ↔ ∀ j, i ≤ j → j < rs.length → okF (atF rs j).1 (atF rs j).2 = true ∧ cmpF (atF rs j).1 (atF rs j).2 a b < 0 ∧ (j = 0 ∨ cmpF (atF rs (j - 1)).1 (atF rs (j - 1)).2 (atF rs j).1 (atF rs j).2 < 0))
  | 0, i, h => by simp only [ratT, true_iff]; intro j h1 h2; omega
  | n + 1, i, h => by
    simp only [ratT, Bool.and_eq_true, decide_eq_true_eq]
    rw [rat_iff rs a b n (i + 1) (by omega)]
    constructor
    · rintro ⟨h1, h2, h3, h4⟩ j g1 g2
      rcases Nat.lt_or_ge i j with g | g
      · exact h4 j g g2
      · have : j = i := by omega
        subst this
        exact ⟨h1, h2, h3⟩
    · intro g
      obtain ⟨h1, h2, h3⟩ := g i (Nat.le_refl _) (by omega)
      exact ⟨h1, h2, h3, fun j g1 g2 => g j (by omega) g2⟩
/-- The ratios of a valid tuning. -/
structure Tun (rs : List tFrac.den) (o : Fr) : Prop where
  oct : OctF o
  n1 : 1 ≤ rs.length
  n24 : rs.length ≤ 24
  first : atF rs 0 = (1, 1)
  ok : ∀ i, i < rs.length → okF (atF rs i).1 (atF rs i).2 = true
  lt : ∀ i, i < rs.length → qF (atF rs i) < qF o
  inc : ∀ i, i + 1 < rs.length → qF (atF rs i) < qF (atF rs (i + 1))
theorem tune_iff {x : tTuning.den} : tuneF x = true ↔ (okF x.1.1 x.1.2 = true ∧ (0 : Int) < x.1.1) ∧ Tun x.2.2 x.2.1 := by
  obtain ⟨b, o, rs⟩ := x
  change List tFrac.den at rs
  have hr := rat_iff rs o.1 o.2 rs.length 0 (by omega)
  simp only [tuneF, Bool.and_eq_true, decide_eq_true_eq, hr]
  constructor
  · rintro ⟨h1, h2, h3, h4, ⟨h5, h6⟩, ⟨h7, h8⟩, h9⟩
    refine ⟨⟨h1, h2⟩, ⟨h3, h4⟩, h5, h6, Prod.ext h7 h8, fun i hi => (h9 i (by omega) hi).1, fun i hi => ?_, fun i hi => ?_⟩
    · have g := h9 i (by omega) hi
      exact (qF_le (okF_den g.1).2 (okF_den h3).2).1 g.2.1
    · have g := h9 i (by omega) (by omega)
      have g' := h9 (i + 1) (by omega) hi
      exact (qF_le (okF_den g.1).2 (okF_den g'.1).2).1 (g'.2.2.resolve_left (by omega))
  · rintro ⟨⟨h1, h2⟩, h3⟩
    have e := h3.first
    refine ⟨h1, h2, h3.oct.ok, h3.oct.big, ⟨h3.n1, h3.n24⟩, by rw [e]; exact ⟨rfl, rfl⟩, fun j _ hj => ?_⟩
    have k := h3.ok j hj
    refine ⟨k, (qF_le (okF_den k).2 (okF_den h3.oct.ok).2).2 (h3.lt j hj), ?_⟩
    rcases Nat.eq_zero_or_pos j with h | h
    · exact .inl h
    · have k' := h3.ok (j - 1) (by omega)
      have g := h3.inc (j - 1) (by omega)
      rw [Nat.sub_add_cancel h] at g
      exact .inr ((qF_le (okF_den k').2 (okF_den k).2).2 g)
def pw (q : Rat) : Nat → Rat
  | 0 => 1
  | n + 1 => pw q n * q
theorem pw_pos {q : Rat} (h : 0 < q) : ∀ n, 0 < pw q n
  | 0 => by show (0 : Rat) < 1; decide
  | n + 1 => Rat.mul_pos (pw_pos h n) h
theorem pw_add (q : Rat) (a : Nat) : ∀ b, pw q (a + b) = pw q a * pw q b
  | 0 => by show pw q a = pw q a * 1; grind
  | b + 1 => by
    have := pw_add q a b
    show pw q (a + b) * q = pw q a * (pw q b * q)
    rw [this]; grind
/-- The ratio of the m-th key above the base. -/
def Rq (rs : List tFrac.den) (o : Fr) (m : Nat) : Rat := qF (atF rs (m % rs.length)) * pw (qF o) (m / rs.length)
section
variable {rs : List tFrac.den} {o : Fr}
theorem Rq_at (k q : Nat) (hk : k < rs.length) : Rq rs o (k + rs.length * q) = qF (atF rs k) * pw (qF o) q := by
  unfold Rq
  rw [Nat.add_mul_mod_self_left, Nat.mod_eq_of_lt hk, Nat.add_mul_div_left _ _ (by omega), Nat.div_eq_of_lt hk, Nat.zero_add]
theorem Rq_lo (k : Nat) (hk : k < rs.length) : Rq rs o k = qF (atF rs k) := by
  have := Rq_at (rs := rs) (o := o) k 0 hk
  rw [Nat.mul_zero, Nat.add_zero] at this
  rw [this]
  show qF (atF rs k) * 1 = _
  grind
theorem Rq_add (n1 : 1 ≤ rs.length) (m q : Nat) : Rq rs o (m + rs.length * q) = Rq rs o m * pw (qF o) q := by
  unfold Rq
  rw [Nat.add_mul_mod_self_left, Nat.add_mul_div_left _ _ (by omega), pw_add]
  grind
theorem split_at (n1 : 1 ≤ rs.length) (m : Nat) : ∃ k q, k < rs.length ∧ m = k + rs.length * q := ⟨m % rs.length, m / rs.length, Nat.mod_lt _ n1, by have := Nat.div_add_mod m rs.length; omega⟩
theorem Rq_next (n1 : 1 ≤ rs.length) (m : Nat) : Rq rs o (m + rs.length) = Rq rs o m * qF o := by
  have := Rq_add (o := o) n1 m 1
  rw [Nat.mul_one] at this
  rw [this]
  show _ * (1 * qF o) = _
  grind
theorem Rq_lt (h : Tun rs o) (m : Nat) : Rq rs o m < Rq rs o (m + 1) := by
  obtain ⟨k, q, hk, rfl⟩ := split_at h.n1 m
  have hp := pw_pos (show 0 < qF o by have := h.oct.q; grind) q
  rw [Rq_at k q hk]
  rcases Nat.lt_or_ge (k + 1) rs.length with g | g
  · rw [show k + rs.length * q + 1 = (k + 1) + rs.length * q by omega, Rq_at (k + 1) q g]
    exact Rat.mul_lt_mul_of_pos_right (h.inc k g) hp
  · have e : k + rs.length * q + 1 = 0 + rs.length * (q + 1) := by rw [Nat.mul_add]; omega
    rw [e, Rq_at 0 (q + 1) h.n1, h.first, qF_one]
    show _ < 1 * (pw (qF o) q * qF o)
    have := Rat.mul_lt_mul_of_pos_right (h.lt k hk) hp
    grind
theorem Rq_mono (h : Tun rs o) (m : Nat) : ∀ d, 0 < d → Rq rs o m < Rq rs o (m + d)
  | 0, h0 => absurd h0 (by omega)
  | d + 1, _ => by
    have g := Rq_lt h (m + d)
    rcases Nat.eq_zero_or_pos d with hd | hd
    · subst hd; exact g
    · have := Rq_mono h m d hd
      show Rq rs o m < Rq rs o (m + d + 1)
      grind
theorem Rq_pos (h : Tun rs o) (m : Nat) : 0 < Rq rs o m := by
  have h0 : Rq rs o 0 = 1 := by rw [Rq_lo 0 h.n1, h.first, qF_one]
  rcases Nat.eq_zero_or_pos m with hm | hm
  · subst hm; rw [h0]; decide
  · have := Rq_mono h 0 m hm
    rw [Nat.zero_add, h0] at this
    grind
end
theorem tun_pos {rs : List tFrac.den} {o : Fr} (h : Tun rs o) (i : Nat) (hi : i < rs.length) : PosF (atF rs i) := by
  have := Rq_pos h i
  rw [Rq_lo i hi] at this
  exact ⟨h.ok i hi, (qF_pos (h.ok i hi)).1 this⟩
/-! ### one mode -/
theorem modeAt_q {b o : Fr} {rs : List tFrac.den} (h : Tun rs o) {d i : Nat} (hd : d < rs.length) (hi : i < rs.length) (hc : (modeAt (b, o, rs) d i).2 = 0) :
    okF (modeAt (b, o, rs) d i).1.1 (modeAt (b, o, rs) d i).1.2 = true ∧ qF (modeAt (b, o, rs) d i).1 * Rq rs o d = Rq rs o (d + i) := by
  have hD := tun_pos h d hd
  have hq := hD.q
  rw [Rq_lo d hd]
  unfold modeAt at *
  simp only at hc ⊢
  split at hc
  · rename_i h1
    have e : (d + i) % rs.length = d + i - rs.length := by
      rw [Nat.mod_eq_sub_mod h1, Nat.mod_eq_of_lt (by omega)]
    rw [if_pos h1]
    split at hc
    · rename_i h2
      rw [if_pos h2]
      have hA := tun_pos h ((d + i) % rs.length) (by omega)
      have hm := (mulF_ok hA.ok h.oct.ok).resolve_right (by omega)
      obtain ⟨_, g2, g3⟩ := divF_q hm.2 hD.ok hc
      refine ⟨g3, ?_⟩
      rw [g2, mulF_q hA.ok h.oct.ok h2]
      have er : Rq rs o (d + i) = qF (atF rs ((d + i) % rs.length)) * qF o := by
        rw [e, show d + i = (d + i - rs.length) + rs.length by omega, Rq_next h.n1, Rq_lo _ (by omega)]
        congr 3
        omega
      rw [er]
      have h0 : qF (atF rs d) ≠ 0 := by grind
      grind
    · simp at hc
  · rename_i h1
    have e : (d + i) % rs.length = d + i := Nat.mod_eq_of_lt (by omega)
    rw [if_neg h1]
    rw [e] at hc ⊢
    have hA := tun_pos h (d + i) (by omega)
    obtain ⟨_, g2, g3⟩ := divF_q hA.ok hD.ok hc
    refine ⟨g3, ?_⟩
    rw [g2, Rq_lo _ (by omega)]
    have h0 : qF (atF rs d) ≠ 0 := by grind
    grind
theorem modeGo_all (x : tTuning.den) (d : Nat) : ∀ (n i : Nat), (modeGo x d n i).2 = 0 → (modeGo x d n i).1.length = n ∧ ∀ j, j < n → (modeAt x d (i + j)).2 = 0 ∧ atF (modeGo x d n i).1 j = (modeAt x d (i + j)).1
  | 0, _, _ => ⟨rfl, fun j hj => absurd hj (by omega)⟩
  | n + 1, i, h => by
    unfold modeGo at *
    split at h
    · rename_i h1
      rw [if_pos h1]
      obtain ⟨g1, g2⟩ := modeGo_all x d n (i + 1) h
      refine ⟨by simp [g1], fun j hj => ?_⟩
      rcases Nat.eq_zero_or_pos j with h0 | h0
      · subst h0; exact ⟨h1, rfl⟩
      · obtain ⟨k, rfl⟩ : ∃ k, j = k + 1 := ⟨j - 1, by omega⟩
        have := g2 k (by omega)
        rw [show i + 1 + k = i + (k + 1) by omega] at this
        exact ⟨this.1, this.2⟩
    · simp at h
theorem modeGo_code (x : tTuning.den) (d : Nat) : ∀ (n i : Nat), (modeGo x d n i).2 = 0 ∨ (modeGo x d n i).2 = 2
  | 0, _ => .inl rfl
  | n + 1, i => by
    unfold modeGo
    split
    · exact modeGo_code x d n (i + 1)
    · exact .inr rfl
/-- A mode: where it exists. -/
theorem modeF_spec {b o : Fr} {rs : List tFrac.den} (ht : tuneF (b, o, rs) = true) {d : Int} (hd : 0 ≤ d ∧ d ≤ (rs.length : Int) - 1) :
    ((modeF (b, o, rs) d).2 = 0 ∨ (modeF (b, o, rs) d).2 = 2) ∧
    ((modeF (b, o, rs) d).2 = 0 → ∃ us : List tFrac.den, (modeF (b, o, rs) d).1 = (b, o, us) ∧ us.length = rs.length ∧ tuneF (b, o, us) = true ∧ ∀ j, j < rs.length → qF (atF us j) * Rq rs o d.toNat = Rq rs o (d.toNat + j)) := by
  obtain ⟨⟨hb1, hb2⟩, h⟩ := tune_iff.1 ht
  change Tun rs o at h
  have e : modeF (b, o, rs) d = if (modeGo (b, o, rs) d.toNat rs.length 0).2 = 0 then ((b, o, (modeGo (b, o, rs) d.toNat rs.length 0).1), 0) else (((0, 0), (0, 0), []), 2) := by
    unfold modeF
    rw [if_pos ht, if_pos hd]
  rw [e]
  rcases modeGo_code (b, o, rs) d.toNat rs.length 0 with hc | hc
  · rw [if_pos hc]
    refine ⟨.inl rfl, fun _ => ⟨_, rfl, ?_⟩⟩
    obtain ⟨g1, g2⟩ := modeGo_all _ _ _ _ hc
    generalize (modeGo (b, o, rs) d.toNat rs.length 0).1 = us at *
    have hq : ∀ j, j < rs.length → okF (atF us j).1 (atF us j).2 = true ∧ qF (atF us j) * Rq rs o d.toNat = Rq rs o (d.toNat + j) := fun j hj => by
      have := g2 j hj
      rw [Nat.zero_add] at this
      rw [this.2]
      exact modeAt_q h (by omega) hj this.1
    refine ⟨g1, ?_, fun j hj => (hq j hj).2⟩
    have hp := Rq_pos h d.toNat
    refine tune_iff.2 ⟨⟨hb1, hb2⟩, h.oct, by show 1 ≤ us.length; have := h.n1; omega, by show us.length ≤ 24; have := h.n24; omega, ?_, fun i hi => (hq i (by change i < us.length at hi; omega)).1, fun i hi => ?_, fun i hi => ?_⟩
    · have g := hq 0 h.n1
      refine qF_inj g.1 (by decide) ?_
      rw [Nat.add_zero] at g
      rw [qF_one]
      have h0 : Rq rs o d.toNat ≠ 0 := by grind
      have := g.2
      grind
    · change i < us.length at hi
      have g := (hq i (by omega)).2
      have g2 := Rq_mono h (d.toNat + i) (rs.length - i) (by omega)
      rw [show d.toNat + i + (rs.length - i) = d.toNat + rs.length by omega, Rq_next h.n1, ← g] at g2
      have g3 : Rq rs o d.toNat * qF o = qF o * Rq rs o d.toNat := by grind
      rw [g3] at g2
      exact Rat.lt_of_mul_lt_mul_right g2 (Rat.le_of_lt hp)
    · change i + 1 < us.length at hi
      have g := (hq i (by omega)).2
      have g' := (hq (i + 1) (by omega)).2
      have g2 := Rq_lt h (d.toNat + i)
      rw [show d.toNat + i + 1 = d.toNat + (i + 1) by omega, ← g, ← g'] at g2
      exact Rat.lt_of_mul_lt_mul_right g2 (Rat.le_of_lt hp)
  · rw [if_neg (by omega)]
    exact ⟨.inr rfl, fun h => absurd h (by simp)⟩
/-- The first mode is the tuning's own: it exists. -/
theorem modeF_zero {b o : Fr} {rs : List tFrac.den} (ht : tuneF (b, o, rs) = true) : (modeF (b, o, rs) 0).2 = 0 := by
  obtain ⟨_, h⟩ := tune_iff.1 ht
  change Tun rs o at h
  have n1 := h.n1
  have hd : ∀ n i, i + n = rs.length → (modeGo (b, o, rs) 0 n i).2 = 0 := by
    intro n
    induction n with
    | zero => intro i _; rfl
    | succ n ih =>
      intro i hi
      have hA := h.ok i (by omega)
      have hc : (modeAt (b, o, rs) 0 i).2 = 0 := by
        unfold modeAt
        simp only [Nat.zero_add]
        rw [if_neg (by omega), h.first]
        have e : (i % rs.length) = i := Nat.mod_eq_of_lt (by omega)
        rw [e]
        unfold divF
        rw [if_pos ⟨hA, by decide⟩, if_neg (by decide)]
        have hs := mkF_self hA
        simp only [Int.mul_one]
        rw [hs]
      unfold modeGo
      rw [if_pos hc]
      exact ih (i + 1) (by omega)
  have e : modeF (b, o, rs) 0 = if (modeGo (b, o, rs) 0 rs.length 0).2 = 0 then ((b, o, (modeGo (b, o, rs) 0 rs.length 0).1), 0) else (((0, 0), (0, 0), []), 2) := by
    unfold modeF
    rw [if_pos ht, if_pos (by show 0 ≤ 0 ∧ 0 ≤ (rs.length : Int) - 1; omega)]
    rfl
  rw [e, if_pos (hd rs.length 0 (by omega))]
/-- The keys of a mode are those of the tuning. -/
theorem mode_Rq {rs us : List tFrac.den} {o : Fr} (h : Tun rs o) (hl : us.length = rs.length) {i : Nat} (hq : ∀ j, j < rs.length → qF (atF us j) * Rq rs o i = Rq rs o (i + j)) (m : Nat) : Rq us o m * Rq rs o i = Rq rs o (i + m) := by
  obtain ⟨k, q, hk, rfl⟩ := split_at (rs := us) (by have := h.n1; omega) m
  rw [Rq_at k q hk]
  have := hq k (by omega)
  rw [hl, show i + (k + rs.length * q) = (i + k) + rs.length * q by omega, Rq_add h.n1, ← this]
  grind
theorem list_at {us bs : List tFrac.den} (hl : us.length = bs.length) (h : ∀ j, j < us.length → atF us j = atF bs j) : us = bs := by
  refine List.ext_getElem hl fun i h1 h2 => ?_
  have := h i h1
  unfold atF at this
  rwa [getD_lt _ _ _ h1, getD_lt _ _ _ h2] at this
/-- A mode of a mode is a mode. -/
theorem mode_mode {b o : Fr} {rs : List tFrac.den} (ht : tuneF (b, o, rs) = true) {i k : Int} (hi : 0 ≤ i ∧ i ≤ (rs.length : Int) - 1) (hk : 0 ≤ k ∧ k ≤ (rs.length : Int) - 1)
    (h1 : (modeF (b, o, rs) i).2 = 0) (h2 : (modeF (modeF (b, o, rs) i).1 k).2 = 0) (h3 : (modeF (b, o, rs) ((i + k) % (rs.length : Int))).2 = 0) :
    (modeF (modeF (b, o, rs) i).1 k).1 = (modeF (b, o, rs) ((i + k) % (rs.length : Int))).1 := by
  obtain ⟨_, h⟩ := tune_iff.1 ht
  change Tun rs o at h
  have n1 := h.n1
  obtain ⟨us, ea, la, ta, qa⟩ := (modeF_spec ht hi).2 h1
  rw [ea] at h2 ⊢
  obtain ⟨bs, eb, lb, tb, qb⟩ := (modeF_spec ta (d := k) (by omega)).2 h2
  have hp0 := Int.emod_nonneg (i + k) (b := (rs.length : Int)) (by omega)
  have hp1 := Int.emod_lt_of_pos (i + k) (b := (rs.length : Int)) (by omega)
  obtain ⟨cs, ec, lc, tc, qc⟩ := (modeF_spec ht (d := (i + k) % (rs.length : Int)) ⟨hp0, by omega⟩).2 h3
  rw [eb, ec]
  obtain ⟨_, hA⟩ := tune_iff.1 ta
  change Tun us o at hA
  obtain ⟨_, hB⟩ := tune_iff.1 tb
  change Tun bs o at hB
  obtain ⟨_, hC⟩ := tune_iff.1 tc
  change Tun cs o at hC
  have hp : ((i + k) % (rs.length : Int)).toNat = (i.toNat + k.toNat) % rs.length := by
    rw [show i + k = ((i.toNat + k.toNat : Nat) : Int) by omega, ← Int.natCast_emod, Int.toNat_natCast]
  have hdm := Nat.div_add_mod (i.toNat + k.toNat) rs.length
  rw [hp] at qc
  generalize (i.toNat + k.toNat) % rs.length = p at *
  generalize (i.toNat + k.toNat) / rs.length = q at *
  have hbc : bs = cs := list_at (by omega) fun j hj => by
    refine qF_inj (hB.ok j hj) (hC.ok j (by omega)) ?_
    have e1 := qb j (by omega)
    have e2 := qc j (by omega)
    have e3 := mode_Rq h la qa k.toNat
    have e4 := mode_Rq h la qa (k.toNat + j)
    have e5 : Rq rs o (i.toNat + k.toNat) = Rq rs o p * pw (qF o) q := by rw [← hdm, Nat.add_comm, Rq_add n1]
    have e6 : Rq rs o (i.toNat + (k.toNat + j)) = Rq rs o (p + j) * pw (qF o) q := by
      rw [show i.toNat + (k.toNat + j) = (p + j) + rs.length * q by omega, Rq_add n1]
    have p1 := Rq_pos h i.toNat
    have p2 := Rq_pos h p
    have p3 := pw_pos (show 0 < qF o by have := h.oct.q; grind) q
    have p4 := Rq_pos hA k.toNat
    generalize Rq rs o i.toNat = u at *
    generalize Rq rs o p = v at *
    generalize pw (qF o) q = w at *
    generalize Rq us o k.toNat = z at *
    rw [e6, ← e2] at e4
    rw [← e1] at e4
    rw [e5] at e3
    have n2 : u ≠ 0 := by grind
    have n3 : v ≠ 0 := by grind
    have n4 : w ≠ 0 := by grind
    have n5 : z ≠ 0 := by grind
    have e7 : qF (atF bs j) * (z * u) = qF (atF cs j) * (v * w) := by grind
    rw [e3] at e7
    have n6 : v * w ≠ 0 := fun e => by rcases Rat.mul_eq_zero.1 e with e | e <;> contradiction
    grind
  rw [hbc]
/-! ### steps -/
theorem stepsGo_all : ∀ (l : List Fr) (b : Fr), (stepsGo b l).2 = 0 → (stepsGo b l).1.length = l.length ∧ ∀ j, j < l.length → (divF (atF l j).1 (atF l j).2 (if j = 0 then b else atF l (j - 1)).1 (if j = 0 then b else atF l (j - 1)).2).2 = 0 ∧ atF (stepsGo b l).1 j = (divF (atF l j).1 (atF l j).2 (if j = 0 then b else atF l (j - 1)).1 (if j = 0 then b else atF l (j - 1)).2).1
  | [], _, _ => ⟨rfl, fun j hj => absurd hj (by simp)⟩
  | r :: l, b, h => by
    unfold stepsGo at *
    split at h
    · rename_i h1
      rw [if_pos h1]
      obtain ⟨g1, g2⟩ := stepsGo_all l r h
      refine ⟨by simp [g1], fun j hj => ?_⟩
      rcases Nat.eq_zero_or_pos j with h0 | h0
      · subst h0; exact ⟨h1, rfl⟩
      · obtain ⟨k, rfl⟩ : ∃ k, j = k + 1 := ⟨j - 1, by omega⟩
        have := g2 k (by simp at hj; omega)
        have e : (if k = 0 then r else atF l (k - 1)) = (if k + 1 = 0 then b else atF (r :: l) (k + 1 - 1)) := by
          rw [if_neg (by omega : ¬ k + 1 = 0)]
          rcases Nat.eq_zero_or_pos k with hk | hk
          · subst hk; rfl
          · rw [if_neg (by omega)]
            obtain ⟨m, rfl⟩ : ∃ m, k = m + 1 := ⟨k - 1, by omega⟩
            rfl
        rw [e] at this
        exact this
    · simp at h
theorem stepsGo_code : ∀ (l : List Fr) (b : Fr), (stepsGo b l).2 = 0 ∨ (stepsGo b l).2 = 2
  | [], _ => .inl rfl
  | r :: l, b => by
    unfold stepsGo
    split
    · exact stepsGo_code l r
    · exact .inr rfl
theorem stepsF_spec {b o : Fr} {rs : List tFrac.den} (ht : tuneF (b, o, rs) = true) :
    ((stepsF (b, o, rs)).2 = 0 ∨ (stepsF (b, o, rs)).2 = 2) ∧
    ((stepsF (b, o, rs)).2 = 0 → (stepsF (b, o, rs)).1.length = rs.length ∧ ∀ j, j < rs.length → okF (atF (stepsF (b, o, rs)).1 j).1 (atF (stepsF (b, o, rs)).1 j).2 = true ∧ qF (atF (stepsF (b, o, rs)).1 j) * Rq rs o j = Rq rs o (j + 1)) := by
  obtain ⟨_, h⟩ := tune_iff.1 ht
  change Tun rs o at h
  have n1 := h.n1
  have e : stepsF (b, o, rs) = if (stepsGo (atF rs 0) (rs.drop 1 ++ [o])).2 = 0 then ((stepsGo (atF rs 0) (rs.drop 1 ++ [o])).1, 0) else ([], 2) := by
    unfold stepsF
    rw [if_pos ht]
  rw [e]
  rcases stepsGo_code (rs.drop 1 ++ [o]) (atF rs 0) with hc | hc
  · rw [if_pos hc]
    refine ⟨.inl rfl, fun _ => ?_⟩
    obtain ⟨g1, g2⟩ := stepsGo_all _ _ hc
    have hl : (rs.drop 1 ++ [o]).length = rs.length := by simp; omega
    refine ⟨by rw [g1, hl], fun j hj => ?_⟩
    obtain ⟨k1, k2⟩ := g2 j (by omega)
    have e1 : (if j = 0 then atF rs 0 else atF (rs.drop 1 ++ [o]) (j - 1)) = atF rs j := by
      split
      · rename_i h0; subst h0; rfl
      · unfold atF
        rw [getD_lt _ _ _ (by omega), getD_lt _ _ _ hj, List.getElem_append_left (by simp; omega), List.getElem_drop]
        congr 1
        omega
    have e2 : qF (atF (rs.drop 1 ++ [o]) j) = Rq rs o (j + 1) ∧ okF (atF (rs.drop 1 ++ [o]) j).1 (atF (rs.drop 1 ++ [o]) j).2 = true := by
      rcases Nat.lt_or_ge (j + 1) rs.length with g | g
      · have : atF (rs.drop 1 ++ [o]) j = atF rs (j + 1) := by
          unfold atF
          rw [getD_lt _ _ _ (by omega), getD_lt _ _ _ g, List.getElem_append_left (by simp; omega), List.getElem_drop]
          congr 1
          omega
        rw [this, Rq_lo _ g]
        exact ⟨rfl, h.ok _ g⟩
      · have : atF (rs.drop 1 ++ [o]) j = o := by
          unfold atF
          rw [getD_lt _ _ _ (by omega), List.getElem_append_right (by simp; omega)]
          simp
        rw [this, show j + 1 = 0 + rs.length by omega, Rq_next n1, Rq_lo 0 n1, h.first, qF_one]
        exact ⟨by grind, h.oct.ok⟩
    rw [e1] at k1 k2
    obtain ⟨_, g3, g4⟩ := divF_q e2.2 (h.ok j hj) k1
    rw [k2]
    refine ⟨g4, ?_⟩
    rw [g3, e2.1, Rq_lo j hj]
    have hp := (tun_pos h j hj).q
    have h0 : qF (atF rs j) ≠ 0 := by grind
    grind
  · rw [if_neg (by omega)]
    exact ⟨.inr rfl, fun h => absurd h (by simp)⟩
/-- The steps of a mode are those of the tuning, turned. -/
theorem steps_mode {b o : Fr} {rs : List tFrac.den} (ht : tuneF (b, o, rs) = true) {i : Int} (hi : 0 ≤ i ∧ i ≤ (rs.length : Int) - 1) (h1 : (modeF (b, o, rs) i).2 = 0)
    (h2 : (stepsF (b, o, rs)).2 = 0) (h3 : (stepsF (modeF (b, o, rs) i).1).2 = 0) :
    (stepsF (b, o, rs)).1.length = rs.length ∧ (stepsF (modeF (b, o, rs) i).1).1.length = rs.length ∧
    ∀ j, j < rs.length → atF (stepsF (modeF (b, o, rs) i).1).1 j = atF (stepsF (b, o, rs)).1 ((i.toNat + j) % rs.length) := by
  obtain ⟨_, h⟩ := tune_iff.1 ht
  change Tun rs o at h
  have n1 := h.n1
  obtain ⟨us, ea, la, ta, qa⟩ := (modeF_spec ht hi).2 h1
  rw [ea] at h3 ⊢
  obtain ⟨x1, x2⟩ := (stepsF_spec ht).2 h2
  obtain ⟨y1, y2⟩ := (stepsF_spec ta).2 h3
  refine ⟨x1, by omega, fun j hj => ?_⟩
  have hp : (i.toNat + j) % rs.length < rs.length := Nat.mod_lt _ n1
  have hdm := Nat.div_add_mod (i.toNat + j) rs.length
  generalize (i.toNat + j) % rs.length = p at *
  generalize (i.toNat + j) / rs.length = q at *
  obtain ⟨a1, a2⟩ := y2 j (by omega)
  obtain ⟨b1, b2⟩ := x2 p hp
  refine qF_inj a1 b1 ?_
  have e3 := mode_Rq h la qa j
  have e4 := mode_Rq h la qa (j + 1)
  have e5 : Rq rs o (i.toNat + j) = Rq rs o p * pw (qF o) q := by rw [← hdm, Nat.add_comm, Rq_add n1]
  have e6 : Rq rs o (i.toNat + (j + 1)) = Rq rs o (p + 1) * pw (qF o) q := by
    rw [show i.toNat + (j + 1) = (p + 1) + rs.length * q by omega, Rq_add n1]
  have p1 := Rq_pos h i.toNat
  have p2 := Rq_pos h p
  have p3 := pw_pos (show 0 < qF o by have := h.oct.q; grind) q
  generalize Rq rs o i.toNat = u at *
  generalize Rq rs o p = v at *
  generalize pw (qF o) q = w at *
  rw [e6, ← b2, ← a2] at e4
  rw [e5] at e3
  have n2 : v ≠ 0 := by grind
  have n3 : w ≠ 0 := by grind
  have e7 : qF (atF (stepsF (b, o, us)).1 j) * (v * w) = qF (atF (stepsF (b, o, rs)).1 p) * (v * w) := by
    rw [← e3]
    grind
  have n6 : v * w ≠ 0 := fun e => by rcases Rat.mul_eq_zero.1 e with e | e <;> contradiction
  grind
end Go.Proofs.YtkeckmdmmbeaiaaGreatDoor
namespace Go.Proofs.YtkeckmdmmbeaiaaGreatDoor
def nkCmp : Nat → Int → Int → Int → Int → Int → Int
  | 0, _, _, _, _, _ => 0
  | n + 1, s, a, b, c, d =>
    if a.tdiv b ≠ c.tdiv d then (if a.tdiv b < c.tdiv d then -s else s)
    else if a.tmod b = 0 ∧ c.tmod d = 0 then 0
    else if a.tmod b = 0 then -s
    else if c.tmod d = 0 then s
    else nkCmp n (-s) b (a.tmod b) d (c.tmod d)
theorem cmp_lt {a b c d q r a' c' : Int} (hb : 0 < b) (hd : 0 < d) (h1 : a = b * q + a') (h2 : c = d * r + c') (ha : a' < b) (hc : 0 ≤ c') (h : q < r) : a * d < c * b := by
  have h3 : b * (q + 1) ≤ b * r := Int.mul_le_mul_of_nonneg_left (by omega) (Int.le_of_lt hb)
  have h4 : a < b * r := by rw [Int.mul_add] at h3; omega
  have h5 : a * d < b * r * d := Int.mul_lt_mul_of_pos_right h4 hd
  have h6 : d * r * b ≤ c * b := Int.mul_le_mul_of_nonneg_right (by omega) (Int.le_of_lt hb)
  have h7 : d * r * b = b * r * d := by grind
  omega
theorem nkCmp_eq : ∀ (n : Nat) (s a b c d : Int), 0 ≤ a → 0 < b → 0 ≤ c → 0 < d → b ≤ n →
    nkCmp n s a b c d = if a * d < c * b then -s else if a * d = c * b then 0 else s
  | 0, s, a, b, c, d, _, hb, _, _, hn => by omega
  | n + 1, s, a, b, c, d, ha, hb, hc, hd, hn => by
    have h1 := (Int.mul_tdiv_add_tmod a b).symm
    have h2 := (Int.mul_tdiv_add_tmod c d).symm
    have h3 := Int.tmod_lt_of_pos a hb
    have h4 := Int.tmod_lt_of_pos c hd
    have h5 := Int.tmod_nonneg b ha
    have h6 := Int.tmod_nonneg d hc
    unfold nkCmp
    generalize a.tdiv b = q at *
    generalize c.tdiv d = r at *
    generalize a.tmod b = a' at *
    generalize c.tmod d = c' at *
    by_cases hq : q = r
    · subst hq
      have h7 : a * d - c * b = a' * d - c' * b := by subst h1 h2; grind
      have h8 : 0 < a' → 0 < a' * d := fun h => Int.mul_pos h hd
      have h9 : 0 < c' → 0 < c' * b := fun h => Int.mul_pos h hb
      have h10 : a' = 0 → a' * d = 0 := fun h => by rw [h, Int.zero_mul]
      have h11 : c' = 0 → c' * b = 0 := fun h => by rw [h, Int.zero_mul]
      rw [if_neg (by simp)]
      by_cases e1 : a' = 0 <;> by_cases e2 : c' = 0
      · rw [if_pos ⟨e1, e2⟩, if_neg (by omega), if_pos (by omega)]
      · rw [if_neg (fun h => e2 h.2), if_pos e1, if_pos (by omega)]
      · rw [if_neg (fun h => e1 h.1), if_neg e1, if_pos e2, if_neg (by omega), if_neg (by omega)]
      · rw [if_neg (fun h => e1 h.1), if_neg e1, if_neg e2, nkCmp_eq n (-s) b a' d c' (by omega) (by omega) (by omega) (by omega) (by omega)]
        have h12 : b * c' = c' * b := Int.mul_comm _ _
        have h13 : d * a' = a' * d := Int.mul_comm _ _
        rw [h12, h13]
        rcases Int.lt_trichotomy (a' * d) (c' * b) with h | h | h
        · rw [if_neg (by omega), if_neg (by omega), if_pos (by omega)]
        · rw [if_neg (by omega), if_pos (by omega), if_neg (by omega), if_pos (by omega)]
        · rw [if_pos (by omega), if_neg (by omega), if_neg (by omega)]; simp
    · rw [if_pos hq]
      by_cases hl : q < r
      · rw [if_pos hl, if_pos (cmp_lt hb hd h1 h2 h3 h6 hl)]
      · have := cmp_lt hd hb h2 h1 h4 h5 (by omega)
        rw [if_neg hl, if_neg (by omega), if_neg (by omega)]
/-- Two numbers in parts of forty binary digits. -/
theorem parts_lt {h1 l1 h2 l2 p q : Int} (e1 : h1 * 1099511627776 + l1 = p) (e2 : h2 * 1099511627776 + l2 = q) (a1 : 0 ≤ l1) (a2 : l1 < 1099511627776) (b1 : 0 ≤ l2) (b2 : l2 < 1099511627776) :
    (h1 < h2 ∨ h1 = h2 ∧ l1 < l2) ↔ p < q := by omega
theorem mul_parts (a b : Int) : (a / 1099511627776 * b + a % 1099511627776 * b / 1099511627776) * 1099511627776 + a % 1099511627776 * b % 1099511627776 = a * b := by
  have h1 := Int.mul_ediv_add_emod a 1099511627776
  have h2 := Int.mul_ediv_add_emod (a % 1099511627776 * b) 1099511627776
  generalize a / 1099511627776 = q at *
  generalize a % 1099511627776 = r at *
  generalize r * b / 1099511627776 = q2 at *
  generalize r * b % 1099511627776 = r2 at *
  subst h1
  grind
def keyImp (nf df cf : Int → Int) (xn xd : Int) : Nat → Int → Int → Int → Int → Int
  | 0, _, best, _, _ => best
  | n + 1, k, best, num, den =>
    if cf k ≠ 0 then best
    else if best < 0 ∨ max (xn * df k - nf k * xd) (-(xn * df k - nf k * xd)) * den < num * (xd * df k) then
      keyImp nf df cf xn xd n (k + 1) k (max (xn * df k - nf k * xd) (-(xn * df k - nf k * xd))) (xd * df k)
    else keyImp nf df cf xn xd n (k + 1) best num den
/-- whether (bn, bd) is closer to (xn, xd) than (an, ad) -/
def closerK (an ad bn bd xn xd : Int) : Prop :=
  an * xd < xn * ad ∧ (bn * xd ≤ xn * bd ∨ (bn * xd - xn * bd) * ad < (xn * ad - an * xd) * bd)
instance (an ad bn bd xn xd : Int) : Decidable (closerK an ad bn bd xn xd) := by unfold closerK; infer_instance
def keyEnd (best ld : Int) : Option Int := if ld = 0 then none else some best
def keySpec (nf df cf : Int → Int) (xn xd : Int) : Nat → Int → Int → Int → Int → Option Int
  | 0, _, best, _, ld => keyEnd best ld
  | n + 1, k, best, ln, ld =>
    if cf k ≠ 0 then keyEnd best ld
    else if k = 127 ∨ xn * df k ≤ nf k * xd then some (if 0 < k ∧ closerK ln ld (nf k) (df k) xn xd then k else best)
    else keySpec nf df cf xn xd n (k + 1) (if 0 < k ∧ closerK ln ld (nf k) (df k) xn xd then k else best) (nf k) (df k)
def keyRes (best : Int) : Option Int := if best < 0 then none else some best

section
variable {nf df cf : Int → Int} {xn xd : Int}
theorem keyImp_tail (hx : 0 < xd) (hd : ∀ k, 0 ≤ k → k ≤ 127 → cf k = 0 → 0 < df k)
    (hm : ∀ k, 0 ≤ k → k < 127 → cf k = 0 → cf (k + 1) = 0 → nf k * df (k + 1) < nf (k + 1) * df k) :
    ∀ (n : Nat) (k best A B : Int), 0 ≤ k → k + n = 127 → cf k = 0 → 0 ≤ best → 0 < B → xn * df k ≤ nf k * xd → A * (xd * df k) ≤ (nf k * xd - xn * df k) * B →
      keyImp nf df cf xn xd n (k + 1) best A B = best
  | 0, _, _, _, _, _, _, _, _, _, _, _ => rfl
  | n + 1, k, best, A, B, hk, hn, hc, hb, hB, hle, hA => by
    unfold keyImp
    by_cases hc' : cf (k + 1) = 0
    · have hm' := hm k hk (by omega) hc hc'
      have hq := hd k hk (by omega) hc
      have hq' := hd (k + 1) (by omega) (by omega) hc'
      generalize hp : nf k = p at *
      generalize hQ : df k = q at *
      generalize hp' : nf (k + 1) = p' at *
      generalize hQ' : df (k + 1) = q' at *
      -- x ≤ the next one
      have e1 : xn * q' ≤ p' * xd := by
        refine Int.le_of_mul_le_mul_left (a := q) ?_ hq
        have a1 : xn * q * q' ≤ p * xd * q' := Int.mul_le_mul_of_nonneg_right hle (by omega)
        have a2 : p * q' * xd ≤ p' * q * xd := Int.mul_le_mul_of_nonneg_right (by omega) (by omega)
        grind
      have e2 : A * (xd * q') ≤ (p' * xd - xn * q') * B := by
        refine Int.le_of_mul_le_mul_left (a := q) ?_ hq
        have a1 : A * (xd * q) * q' ≤ (p * xd - xn * q) * B * q' := Int.mul_le_mul_of_nonneg_right hA (by omega)
        have a2 : p * q' * (xd * B) ≤ p' * q * (xd * B) := Int.mul_le_mul_of_nonneg_right (by omega) (Int.le_of_lt (Int.mul_pos hx hB))
        grind
      have e3 : max (xn * q' - p' * xd) (-(xn * q' - p' * xd)) = p' * xd - xn * q' := by omega
      rw [e3, if_neg (fun h : cf (k + 1) ≠ 0 => h hc'), if_neg (by omega)]
      exact keyImp_tail hx hd hm n (k + 1) best A B (by omega) (by omega) hc' hb hB (by rw [hp', hQ']; exact e1) (by rw [hp', hQ']; exact e2)
    · rw [if_pos hc']
theorem key_walk (hx : 0 < xd) (hd : ∀ k, 0 ≤ k → k ≤ 127 → cf k = 0 → 0 < df k)
    (hm : ∀ k, 0 ≤ k → k < 127 → cf k = 0 → cf (k + 1) = 0 → nf k * df (k + 1) < nf (k + 1) * df k) :
    ∀ (n : Nat) (k : Int), 0 ≤ k → k + n = 127 → cf k = 0 → nf k * xd < xn * df k →
      keyRes (keyImp nf df cf xn xd n (k + 1) k (xn * df k - nf k * xd) (xd * df k)) = keySpec nf df cf xn xd n (k + 1) k (nf k) (df k)
  | 0, k, hk, hn, hc, hlt => by
    have := hd k hk (by omega) hc
    unfold keyImp keySpec keyRes keyEnd
    rw [if_neg (Int.not_lt.2 hk), if_neg (by omega)]
  | n + 1, k, hk, hn, hc, hlt => by
    have hq := hd k hk (by omega) hc
    unfold keyImp keySpec
    by_cases hc' : cf (k + 1) = 0
    · have hm' := hm k hk (by omega) hc hc'
      have hq' := hd (k + 1) (by omega) (by omega) hc'
      have hcl : closerK (nf k) (df k) (nf (k + 1)) (df (k + 1)) xn xd ↔ (max (xn * df (k + 1) - nf (k + 1) * xd) (-(xn * df (k + 1) - nf (k + 1) * xd)) * (xd * df k) < (xn * df k - nf k * xd) * (xd * df (k + 1))) := by
        unfold closerK
        generalize nf k = p at *
        generalize df k = q at *
        generalize nf (k + 1) = p' at *
        generalize df (k + 1) = q' at *
        by_cases h1 : p' * xd ≤ xn * q'
        · have e3 : max (xn * q' - p' * xd) (-(xn * q' - p' * xd)) = xn * q' - p' * xd := by omega
          rw [e3]
          refine ⟨fun _ => ?_, fun _ => ⟨hlt, .inl h1⟩⟩
          have a2 : p * q' * (xd * xd) < p' * q * (xd * xd) := Int.mul_lt_mul_of_pos_right hm' (Int.mul_pos hx hx)
          grind
        · have e3 : max (xn * q' - p' * xd) (-(xn * q' - p' * xd)) = p' * xd - xn * q' := by omega
          rw [e3]
          have a3 : (p' * xd - xn * q') * (xd * q) = xd * ((p' * xd - xn * q') * q) := by grind
          have a4 : (xn * q - p * xd) * (xd * q') = xd * ((xn * q - p * xd) * q') := by grind
          rw [a3, a4]
          constructor
          · rintro ⟨_, h | h⟩
            · exact absurd h h1
            · exact Int.mul_lt_mul_of_pos_left h hx
          · intro h
            exact ⟨hlt, .inr (Int.lt_of_mul_lt_mul_left h (by omega))⟩
      rw [if_neg (fun h : cf (k + 1) ≠ 0 => h hc'), if_neg (fun h : cf (k + 1) ≠ 0 => h hc')]
      by_cases hle : xn * df (k + 1) ≤ nf (k + 1) * xd
      · rw [if_pos (show k + 1 = 127 ∨ xn * df (k + 1) ≤ nf (k + 1) * xd from .inr hle)]
        have e3 : max (xn * df (k + 1) - nf (k + 1) * xd) (-(xn * df (k + 1) - nf (k + 1) * xd)) = nf (k + 1) * xd - xn * df (k + 1) := by omega
        rw [e3] at hcl ⊢
        by_cases hcc : closerK (nf k) (df k) (nf (k + 1)) (df (k + 1)) xn xd
        · rw [if_pos (.inr (hcl.1 hcc)), if_pos ⟨by omega, hcc⟩, keyImp_tail hx hd hm n (k + 1) (k + 1) _ _ (by omega) (by omega) hc' (by omega) (Int.mul_pos hx hq') hle (Int.le_refl _), keyRes, if_neg (by omega)]
        · rw [if_neg (fun h => h.elim (by omega) fun h => hcc (hcl.2 h)), if_neg (fun h => hcc h.2), keyImp_tail hx hd hm n (k + 1) k _ _ (by omega) (by omega) hc' (by omega) (Int.mul_pos hx hq) hle (Int.not_lt.1 fun h => hcc (hcl.2 h)), keyRes, if_neg (by omega)]
      · have e3 : max (xn * df (k + 1) - nf (k + 1) * xd) (-(xn * df (k + 1) - nf (k + 1) * xd)) = xn * df (k + 1) - nf (k + 1) * xd := by omega
        have hcc : closerK (nf k) (df k) (nf (k + 1)) (df (k + 1)) xn xd := ⟨hlt, .inl (by omega)⟩
        rw [if_pos (.inr (hcl.1 hcc)), e3]
        by_cases h7 : k + 1 = 127
        · rw [if_pos (show k + 1 = 127 ∨ xn * df (k + 1) ≤ nf (k + 1) * xd from .inl h7), if_pos ⟨by omega, hcc⟩]
          have : n = 0 := by omega
          subst this
          rw [keyImp, keyRes, if_neg (by omega)]
        · rw [if_neg (show ¬(k + 1 = 127 ∨ xn * df (k + 1) ≤ nf (k + 1) * xd) from fun h => h.elim h7 hle), if_pos ⟨by omega, hcc⟩]
          exact key_walk hx hd hm n (k + 1) (by omega) (by omega) hc' (by omega)
    · rw [if_pos hc', if_pos hc', keyRes, keyEnd, if_neg (by omega), if_neg (by omega)]
theorem key_same (hx : 0 < xd) (hd : ∀ k, 0 ≤ k → k ≤ 127 → cf k = 0 → 0 < df k)
    (hm : ∀ k, 0 ≤ k → k < 127 → cf k = 0 → cf (k + 1) = 0 → nf k * df (k + 1) < nf (k + 1) * df k) :
    keyRes (keyImp nf df cf xn xd 128 0 (-1) 0 1) = keySpec nf df cf xn xd 128 0 0 0 0 := by
  unfold keyImp keySpec
  by_cases hc : cf 0 = 0
  · have hq := hd 0 (by omega) (by omega) hc
    rw [if_neg (fun h : cf 0 ≠ 0 => h hc), if_neg (fun h : cf 0 ≠ 0 => h hc), if_pos (.inl (by omega)), if_neg (fun h : (0 : Int) < 0 ∧ _ => absurd h.1 (by omega))]
    by_cases hle : xn * df 0 ≤ nf 0 * xd
    · have e3 : max (xn * df 0 - nf 0 * xd) (-(xn * df 0 - nf 0 * xd)) = nf 0 * xd - xn * df 0 := by omega
      rw [if_pos (show (0 : Int) = 127 ∨ xn * df 0 ≤ nf 0 * xd from .inr hle), e3, keyImp_tail hx hd hm 127 0 0 _ _ (by omega) (by omega) hc (by omega) (Int.mul_pos hx hq) hle (Int.le_refl _), keyRes, if_neg (by omega)]
    · have e3 : max (xn * df 0 - nf 0 * xd) (-(xn * df 0 - nf 0 * xd)) = xn * df 0 - nf 0 * xd := by omega
      rw [if_neg (show ¬((0 : Int) = 127 ∨ xn * df 0 ≤ nf 0 * xd) from fun h => h.elim (by omega) hle), e3]
      exact key_walk hx hd hm 127 0 (by omega) (by omega) hc (by omega)
  · rw [if_pos hc, if_pos hc]; rfl
end
end Go.Proofs.YtkeckmdmmbeaiaaGreatDoor
namespace Go.Proofs.YtkeckmdmmbeaiaaGreatDoor
theorem mulEx {a b c d : Int} (h1 : okF a b = true) (h2 : okF c d = true) (ha : 0 < a) (hc : 0 < c) (h : (mulF a b c d).2 = 0) :
    (mulF a b c d).1.1 * (b * d) = a * c * (mulF a b c d).1.2 ∧ 0 < (mulF a b c d).1.1 ∧ 0 < (mulF a b c d).1.2 ∧ okF (mulF a b c d).1.1 (mulF a b c d).1.2 = true := by
  have hb := (okF_bd h1).1
  have hd := (okF_bd h2).1
  have hbd : 0 < b * d := Int.mul_pos (by omega) (by omega)
  have hac : 0 < a * c := Int.mul_pos ha hc
  have hok : okF (mulF a b c d).1.1 (mulF a b c d).1.2 = true := by
    rcases mulF_ok h1 h2 with g | g
    · exact g.2
    · omega
  have hq := (okF_bd hok).1
  have e : mulF a b c d = mkF (a * c) (b * d) := by
    unfold mulF opF
    rw [h1, h2]; rfl
  have key : (mulF a b c d).1.1 * (b * d) = a * c * (mulF a b c d).1.2 := by
    rw [e] at h ⊢
    rw [mkF_pos _ _ (by omega)] at h ⊢
    generalize a * c = n at *
    generalize b * d = m at *
    split at h
    · simp at h
    · rename_i hne
      rw [if_neg hne]
      have s1 : (decide (n < 0) != decide (m < 0)) = false := by
        rw [decide_eq_false (by omega), decide_eq_false (by omega)]; rfl
      simp only [s1, Bool.false_eq_true, if_false]
      have n1 : (n.natAbs : Int) = n := by omega
      have m1 : (m.natAbs : Int) = m := by omega
      rw [n1, m1]
      have g1 : (Int.gcd n m : Int) * (n / (Int.gcd n m : Int)) = n := Int.mul_ediv_cancel' (Int.gcd_dvd_left ..)
      have g2 : (Int.gcd n m : Int) * (m / (Int.gcd n m : Int)) = m := Int.mul_ediv_cancel' (Int.gcd_dvd_right ..)
      generalize n / (Int.gcd n m : Int) = x at *
      generalize m / (Int.gcd n m : Int) = y at *
      generalize (Int.gcd n m : Int) = g at *
      subst g1 g2
      show x * (g * y) = g * x * y
      grind
  refine ⟨key, ?_, by omega, hok⟩
  have : 0 < (mulF a b c d).1.1 * (b * d) := by rw [key]; exact Int.mul_pos hac (by omega)
  exact Int.lt_of_mul_lt_mul_right (a := b * d) (by rw [Int.zero_mul]; exact this) (by omega)
theorem rise {ea eb ra rb sa sb p q p' q' : Int} (h1 : p * (eb * rb) = ea * ra * q) (h2 : p' * (eb * sb) = ea * sa * q') (hea : 0 < ea) (heb : 0 < eb) (hrb : 0 < rb) (hsb : 0 < sb) (hq : 0 < q) (hq' : 0 < q')
    (h : ra * sb < sa * rb) : p * q' < p' * q := by
  have hK : 0 < eb * rb * sb := Int.mul_pos (Int.mul_pos heb hrb) hsb
  refine Int.lt_of_mul_lt_mul_right (a := eb * rb * sb) ?_ (by omega)
  have hM : 0 < ea * q * q' := Int.mul_pos (Int.mul_pos hea hq) hq'
  have h3 : ra * sb * (ea * q * q') < sa * rb * (ea * q * q') := Int.mul_lt_mul_of_pos_right h hM
  have e1 : p * q' * (eb * rb * sb) = ra * sb * (ea * q * q') := by
    calc p * q' * (eb * rb * sb) = p * (eb * rb) * (q' * sb) := by grind
      _ = ra * sb * (ea * q * q') := by rw [h1]; grind
  have e2 : p' * q * (eb * rb * sb) = sa * rb * (ea * q * q') := by
    calc p' * q * (eb * rb * sb) = p' * (eb * sb) * (q * rb) := by grind
      _ = sa * rb * (ea * q * q') := by rw [h2]; grind
  omega
theorem via {ea eb oa ob fa fb p' q' : Int} (h1 : fa * (eb * ob) = ea * oa * fb) (h2 : p' * (fb * 1) = fa * 1 * q') (hf : 0 < fb) : p' * (eb * ob) = ea * oa * q' := by
  refine Int.eq_of_mul_eq_mul_right (a := fb) (by omega) ?_
  calc p' * (eb * ob) * fb = p' * (fb * 1) * (eb * ob) := by grind
    _ = fa * (eb * ob) * q' := by rw [h2]; grind
    _ = ea * oa * q' * fb := by rw [h1]; grind
theorem freqGo_snoc (oa ob : Int) : ∀ (n : Nat) (e : Int × Int), (freqGo oa ob (n + 1) e).2 = 0 →
    (freqGo oa ob n e).2 = 0 ∧ (mulF (freqGo oa ob n e).1.1 (freqGo oa ob n e).1.2 oa ob).2 = 0 ∧ (freqGo oa ob (n + 1) e).1 = (mulF (freqGo oa ob n e).1.1 (freqGo oa ob n e).1.2 oa ob).1
  | 0, e, h => by
    simp only [freqGo] at h ⊢
    split at h
    · rename_i hc; exact ⟨trivial, hc, by rw [if_pos hc]⟩
    · simp at h
  | n + 1, e, h => by
    rw [freqGo] at h
    split at h
    · rename_i hc
      have := freqGo_snoc oa ob n _ h
      rw [show freqGo oa ob (n + 1 + 1) e = freqGo oa ob (n + 1) (mulF e.1 e.2 oa ob).1 by rw [freqGo, if_pos hc], show freqGo oa ob (n + 1) e = freqGo oa ob n (mulF e.1 e.2 oa ob).1 by rw [freqGo, if_pos hc]]
      exact this
    · simp at h
theorem freqGo_pos {oa ob : Int} (ho : okF oa ob = true) (hoa : 0 < oa) : ∀ (n : Nat) (e : Int × Int), okF e.1 e.2 = true → 0 < e.1 → 0 < (freqGo oa ob n e).1.1
  | 0, _, _, h => h
  | n + 1, e, h, hp => by
    unfold freqGo
    split
    · rename_i hc
      have g := mulEx h ho hp hoa hc
      exact freqGo_pos ho hoa n _ g.2.2.2 g.2.1
    · exact hp
theorem ratT_at (rs : List tFrac.den) (a b : Int) : ∀ (n i : Nat), ratT rs a b n i = true → ∀ j, i ≤ j → j < i + n →
    okF (atF rs j).1 (atF rs j).2 = true ∧ cmpF (atF rs j).1 (atF rs j).2 a b < 0 ∧ (j = 0 ∨ cmpF (atF rs (j - 1)).1 (atF rs (j - 1)).2 (atF rs j).1 (atF rs j).2 < 0)
  | 0, i, _, j, h1, h2 => by omega
  | n + 1, i, h, j, h1, h2 => by
    simp only [ratT, Bool.and_eq_true, decide_eq_true_eq] at h
    by_cases hj : j = i
    · subst hj; exact ⟨h.1, h.2.1, h.2.2.1⟩
    · exact ratT_at rs a b n (i + 1) h.2.2.2 j (by omega) (by omega)
theorem cmpF_lt {a b c d : Int} (h : cmpF a b c d < 0) : a * d < c * b := by
  unfold cmpF at h
  split at h
  · assumption
  · split at h <;> omega
theorem rat_pos {rs : List tFrac.den} {a b : Int} (h : ratT rs a b rs.length 0 = true) (h0 : (atF rs 0).1 = 1) : ∀ j : Nat, j < rs.length → 0 < (atF rs j).1
  | 0, _ => by rw [h0]; omega
  | j + 1, hj => by
    have ih := rat_pos h h0 j (by omega)
    obtain ⟨g1, g2, g3⟩ := ratT_at rs a b rs.length 0 h (j + 1) (by omega) (by omega)
    obtain ⟨k1, k2, k3⟩ := ratT_at rs a b rs.length 0 h j (by omega) (by omega)
    have g4 := cmpF_lt (g3.resolve_left (by omega))
    rw [show j + 1 - 1 = j by omega] at g4
    have b1 := (okF_bd g1).1
    have b2 := (okF_bd k1).1
    have : 0 < (atF rs j).1 * (atF rs (j + 1)).2 := Int.mul_pos ih (by omega)
    exact Int.lt_of_mul_lt_mul_right (a := (atF rs j).2) (by rw [Int.zero_mul]; omega) (by omega)
theorem freqF_ex {x : tTuning.den} {k : Int} (h : (freqF x k).2 = 0) :
    (freqGo x.2.1.1 x.2.1.2 (k / ((x.2.2 : List tFrac.den).length : Int)).toNat x.1).2 = 0 ∧
      freqF x k = mulF (freqGo x.2.1.1 x.2.1.2 (k / ((x.2.2 : List tFrac.den).length : Int)).toNat x.1).1.1 (freqGo x.2.1.1 x.2.1.2 (k / ((x.2.2 : List tFrac.den).length : Int)).toNat x.1).1.2 (atF x.2.2 (k % ((x.2.2 : List tFrac.den).length : Int)).toNat).1 (atF x.2.2 (k % ((x.2.2 : List tFrac.den).length : Int)).toNat).2 := by
  unfold freqF at h ⊢
  split at h
  · rename_i hc; exact ⟨hc, by rw [if_pos hc]⟩
  · simp at h
theorem next_key (k n : Int) (h0 : 0 ≤ k) (hn : 1 ≤ n) : ((k + 1) / n = k / n ∧ (k + 1) % n = k % n + 1 ∧ k % n + 1 < n) ∨ ((k + 1) / n = k / n + 1 ∧ (k + 1) % n = 0 ∧ k % n = n - 1) := by
  have h1 := Int.mul_ediv_add_emod k n
  have h2 := Int.emod_nonneg k (b := n) (by omega)
  have h3 := Int.emod_lt_of_pos k (b := n) (by omega)
  by_cases h : k % n + 1 < n
  · have := (Int.ediv_emod_unique (a := k + 1) (b := n) (r := k % n + 1) (q := k / n) (by omega)).2 ⟨by omega, by omega, h⟩
    exact .inl ⟨this.1, this.2, h⟩
  · have := (Int.ediv_emod_unique (a := k + 1) (b := n) (r := 0) (q := k / n + 1) (by omega)).2 ⟨by rw [Int.mul_add]; omega, by omega, by omega⟩
    exact .inr ⟨this.1, this.2, by omega⟩
theorem freq_rise {x : tTuning.den} (hx : tuneF x = true) {k : Int} (h0 : 0 ≤ k) (c1 : (freqF x k).2 = 0) (c2 : (freqF x (k + 1)).2 = 0) :
    (freqF x k).1.1 * (freqF x (k + 1)).1.2 < (freqF x (k + 1)).1.1 * (freqF x k).1.2 := by
  have ht := hx
  simp only [tuneF, Bool.and_eq_true, decide_eq_true_eq] at ht
  obtain ⟨hb, hbp, ho, hop, hlen, hr0, hrat⟩ := ht
  have hoa : (0 : Int) < x.2.1.1 := by
    have h := hop
    have b1 := (okF_bd ho).1
    unfold cmpF at h
    split at h
    · omega
    · split at h <;> omega
  obtain ⟨e1, f1⟩ := freqF_ex c1
  obtain ⟨e2, f2⟩ := freqF_ex c2
  rw [f1] at c1 ⊢
  rw [f2] at c2 ⊢
  clear f1 f2
  have hrp := rat_pos hrat hr0.1
  have hra := fun j (hj : j < (x.2.2 : List tFrac.den).length) => ratT_at x.2.2 _ _ _ 0 hrat j (by omega) (by omega)
  have hm0 := Int.emod_nonneg k (b := ((x.2.2 : List tFrac.den).length : Int)) (by omega)
  have hm1 := Int.emod_lt_of_pos k (b := ((x.2.2 : List tFrac.den).length : Int)) (by omega)
  have hd0 : 0 ≤ k / ((x.2.2 : List tFrac.den).length : Int) := Int.ediv_nonneg h0 (by omega)
  have hrk := hra (k % ((x.2.2 : List tFrac.den).length : Int)).toNat (by omega)
  have hpk := hrp (k % ((x.2.2 : List tFrac.den).length : Int)).toNat (by omega)
  have hEo := freqGo_ok ho (k / ((x.2.2 : List tFrac.den).length : Int)).toNat x.1 hb
  have hEp := freqGo_pos ho hoa (k / ((x.2.2 : List tFrac.den).length : Int)).toNat x.1 hb hbp
  have m1 := mulEx hEo hrk.1 hEp hpk c1
  have hEb := (okF_bd hEo).1
  have hrb := (okF_bd hrk.1).1
  rcases next_key k ((x.2.2 : List tFrac.den).length : Int) h0 (by omega) with ⟨d1, d2, d3⟩ | ⟨d1, d2, d3⟩
  · rw [d1, d2] at c2 ⊢
    have hrk' := hra (k % ((x.2.2 : List tFrac.den).length : Int) + 1).toNat (by omega)
    have hpk' := hrp (k % ((x.2.2 : List tFrac.den).length : Int) + 1).toNat (by omega)
    have m2 := mulEx hEo hrk'.1 hEp hpk' c2
    have hrb' := (okF_bd hrk'.1).1
    have hl := cmpF_lt (hrk'.2.2.resolve_left (by omega))
    rw [show (k % ((x.2.2 : List tFrac.den).length : Int) + 1).toNat - 1 = (k % ((x.2.2 : List tFrac.den).length : Int)).toNat by omega] at hl
    exact rise m1.1 m2.1 hEp (by omega) (by omega) (by omega) m1.2.2.1 m2.2.2.1 hl
  · rw [d1, d2] at c2 ⊢
    rw [d1] at e2
    rw [show (k / ((x.2.2 : List tFrac.den).length : Int) + 1).toNat = (k / ((x.2.2 : List tFrac.den).length : Int)).toNat + 1 by omega] at c2 e2 ⊢
    obtain ⟨_, s2, s3⟩ := freqGo_snoc _ _ _ _ e2
    have mo := mulEx hEo ho hEp hoa s2
    rw [s3] at c2 ⊢
    rw [show (0 : Int).toNat = 0 by rfl, hr0.1, hr0.2] at c2 ⊢
    have m2 := mulEx mo.2.2.2 (show okF 1 1 = true by decide) mo.2.1 (by omega) c2
    have m3 := via mo.1 m2.1 mo.2.2.1
    have hbo := (okF_bd ho).1
    exact rise m1.1 m3 hEp (by omega) (by omega) (by omega) m1.2.2.1 m2.2.2.1 (cmpF_lt hrk.2.1)
end Go.Proofs.YtkeckmdmmbeaiaaGreatDoor
namespace Go.Proofs.YtkeckmdmmbeaiaaGreatDoor
open Go.RowKit Sx
set_option maxRecDepth 100000
set_option maxHeartbeats 1000000
theorem and40 (n : Int) (h : 0 ≤ n) : ((n.toNat &&& 1099511627775 : Nat) : Int) = n % 1099511627776 := by
  have := Nat.and_two_pow_sub_one_eq_mod n.toNat 40
  rw [show (1099511627775 : Nat) = 2 ^ 40 - 1 by decide, this]
  omega
theorem bd40 {a b : Int} (h : (0 ≤ a ∧ a ≤ 4000000000000000000) ∧ (0 ≤ b ∧ b ≤ 1000000)) : (0 ≤ a / 1099511627776 * b ∧ a / 1099511627776 * b ≤ 4000000000000) ∧ (0 ≤ a % 1099511627776 * b ∧ a % 1099511627776 * b ≤ 1099511627776000000) := by
  obtain ⟨⟨h1, h2⟩, h3, h4⟩ := h
  have g1 : a / 1099511627776 * b ≤ a / 1099511627776 * 1000000 := Int.mul_le_mul_of_nonneg_left h4 (by omega)
  have g2 : a % 1099511627776 * b ≤ a % 1099511627776 * 1000000 := Int.mul_le_mul_of_nonneg_left h4 (by omega)
  exact ⟨⟨Int.mul_nonneg (by omega) h3, by omega⟩, ⟨Int.mul_nonneg (by omega) h3, by omega⟩⟩
def ct_distance : Ct := ctOf [.s tFrac, .s tFrac] (fun (((a : Int), (b : Int)), ((c : Int), (d : Int)), _) => .p (((1 ≤ b ∧ b ≤ 1000000) ∧ (-1000000000 ≤ a ∧ a ≤ 1000000000)) ∧ ((1 ≤ d ∧ d ≤ 1000000) ∧ (-1000000000 ≤ c ∧ c ≤ 1000000000)))) (fun (((a : Int), (b : Int)), ((c : Int), (d : Int)), _) => .tup [.int .i64 (max (a * d - c * b) (-(a * d - c * b))), .int .i64 (b * d)])
set_option maxHeartbeats 1000000 in
theorem sat_distance : Sat Tryz.prog 80 ct_distance := by
  refine sat_typed (C := C_Fi) (L := noL) (wr := false) mixedOk Tryz.func80 C_Fi_ok (loops0 (by kernel_rfl)) (fun _ => by first | rfl | (simp [ownsOf, ownsOf.ownsL, enc, encV, encS])) fun x hp => ?_
  obtain ⟨⟨(a : Int), (b : Int)⟩, ⟨(c : Int), (d : Int)⟩, _⟩ := x
  replace hp : ((1 ≤ b ∧ b ≤ 1000000) ∧ (-1000000000 ≤ a ∧ a ≤ 1000000000)) ∧ ((1 ≤ d ∧ d ≤ 1000000) ∧ (-1000000000 ≤ c ∧ c ≤ 1000000000)) := hp
  have htree : exFunc Tryz.prog C_Fi false noL Tryz.f80 (encA [.s tFrac, .s tFrac] ((a, b), (c, d), ())) = .need (inK IntKind.i64 (a * d)) (.need (inK IntKind.i64 (c * b)) (.need (inK IntKind.i64 (a * d - c * b)) (.need (inK IntKind.i64 ((0 : Int) - (a * d - c * b))) (.need (inK IntKind.i64 (b * d)) (.leaf [.int .i64 (bif true then max (a * d - c * b) ((0 : Int) - (a * d - c * b)) else min (a * d - c * b) ((0 : Int) - (a * d - c * b))), .int .i64 (b * d)]))))) := by kernel_rfl
  refine (congrArg (Tree.ok _) htree).mpr ?_
  clear htree
  have h1 := mul_bd hp.1.2 hp.2.1
  have h2 := mul_bd hp.2.2 hp.1.1
  have h3 := mul_bd2 hp.1.1 hp.2.1
  simp only [Tree.ok, tyd_inj, packAV, AV.same, AV.same.sameL, encV, encS, enc, inK, Nd.ok, List.headD_cons, List.cons_append, List.nil_append, List.append_nil, true_and, and_true, Bool.true_and, Bool.and_true]
  generalize a * d = m1 at *
  generalize c * b = m2 at *
  generalize b * d = m3 at *
  repeat' first | apply And.intro | intro _
  all_goals first | omega | (simp [Tree.ok, tyd_inj, packAV, AV.same, AV.same.sameL, encV, encS, enc, inK, Nd.ok, List.headD_cons, List.cons_append, List.nil_append, List.append_nil, true_and, and_true, Bool.true_and, Bool.and_true]; done) | (simp [Tree.ok, tyd_inj, packAV, AV.same, AV.same.sameL, encV, encS, enc, inK, Nd.ok, List.headD_cons, List.cons_append, List.nil_append, List.append_nil, true_and, and_true, Bool.true_and, Bool.and_true]; omega) | grind
def C_Nk_1 : FuncId → Option Ct := addC 80 ct_distance C_Fi
theorem C_Nk_1_ok : COk Tryz.prog C_Nk_1 := addC_ok C_Fi_ok sat_distance
def cmpV (s a b c d : Int) : Int := if a * d < c * b then -s else if a * d = c * b then 0 else s
theorem cmpV_step {s a b c d : Int} (ha : 0 ≤ a) (hb : 0 < b) (hc : 0 ≤ c) (hd : 0 < d) : cmpV s a b c d =
    if a.tdiv b ≠ c.tdiv d then (if a.tdiv b < c.tdiv d then -s else s)
    else if a.tmod b = 0 ∧ c.tmod d = 0 then 0
    else if a.tmod b = 0 then -s
    else if c.tmod d = 0 then s
    else cmpV (-s) b (a.tmod b) d (c.tmod d) := by
  have h1 := nkCmp_eq (b.toNat - 1 + 1) s a b c d ha hb hc hd (by omega)
  have h3 := Int.tmod_lt_of_pos a hb
  have h5 := Int.tmod_nonneg b ha
  have h6 := Int.tmod_nonneg d hc
  have h4 : a.tmod b ≠ 0 → c.tmod d ≠ 0 → nkCmp (b.toNat - 1) (-s) b (a.tmod b) d (c.tmod d) = cmpV (-s) b (a.tmod b) d (c.tmod d) := fun e1 e2 => nkCmp_eq (b.toNat - 1) (-s) b (a.tmod b) d (c.tmod d) (by omega) (by omega) (by omega) (by omega) (by omega)
  unfold cmpV at *
  rw [← h1]
  rw [nkCmp]
  split
  · rfl
  · split
    · rfl
    · split
      · rfl
      · split
        · rfl
        · rename_i k1 k2
          exact h4 k1 k2
def ann_compareBig_0 : LAnn := { sameS := [], modS := [0, 1, 2, 3, 8, 9], sameH := [], modH := [], base := 900000, nilE := [], nilB := [], G := fun
  | ⟨[], [], [.int .i64 a, .int .i64 b, .int .i64 c, .int .i64 d, .int .i64 r, .int .i64 s], []⟩ => some (.p ((((0 ≤ a ∧ a ≤ 9223372036854775807) ∧ (1 ≤ b ∧ b ≤ 9223372036854775807)) ∧ ((0 ≤ c ∧ c ≤ 9223372036854775807) ∧ (1 ≤ d ∧ d ≤ 9223372036854775807))) ∧ (s = 1 ∨ s = -1)), .leaf .ret [.unk, .unk, .unk, .unk, .int .i64 (cmpV s a b c d), .unk] [])
  | _ => none }
def ct_compareBig : Ct := ctOf [.v (.int .i64), .v (.int .i64), .v (.int .i64), .v (.int .i64)] (fun ((a : Int), (b : Int), (c : Int), (d : Int), _) => .p (((0 ≤ a ∧ a ≤ 9223372036854775807) ∧ (1 ≤ b ∧ b ≤ 9223372036854775807)) ∧ ((0 ≤ c ∧ c ≤ 9223372036854775807) ∧ (1 ≤ d ∧ d ≤ 9223372036854775807)))) (fun ((a : Int), (b : Int), (c : Int), (d : Int), _) => .int .i64 (cmpV 1 a b c d))
set_option maxHeartbeats 1000000 in
theorem loop_compareBig_0 : LoopSat Tryz.prog Tryz.f81.ntmps (loopAt Tryz.f81 0) ann_compareBig_0 := by
  refine loopSat_of (C := C_Nk_1) (L := (addL (firstId (loopAt Tryz.f81 0)) ann_compareBig_0 noL)) (wr := false) mixedOk C_Nk_1_ok (loopsIn0 (by kernel_rfl)) (fun d => match d.vals with | [_, .int _ b, _, _, _, _] => b.toNat | _ => 0) fun d p t hG hp => ?_
  simp only [ann_compareBig_0] at hG
  split at hG
  rotate_left
  · simp at hG
  rename_i a b c d r s
  simp only [Option.some.injEq, Prod.mk.injEq] at hG
  obtain ⟨rfl, rfl⟩ := hG
  have htree : exRound Tryz.prog C_Nk_1 false (addL (firstId (loopAt Tryz.f81 0)) ann_compareBig_0 noL) Tryz.f81.ntmps ann_compareBig_0 (loopAt Tryz.f81 0) ⟨[], [], [.int .i64 a, .int .i64 b, .int .i64 c, .int .i64 d, .int .i64 r, .int .i64 s], []⟩ = .need (b ≠ (0 : Int) ∧ inK IntKind.i64 (a.tdiv b)) (.need (d ≠ (0 : Int) ∧ inK IntKind.i64 (c.tdiv d)) (.ite (a.tdiv b != c.tdiv d) (.ite (decide (a.tdiv b < c.tdiv d)) (.need (inK IntKind.i64 ((0 : Int) - s)) (.leaf (.ret, ⟨[], [], [.int .i64 (a), .int .i64 (b), .int .i64 (c), .int .i64 (d), .int .i64 ((0 : Int) - s), .int .i64 (s)], []⟩))) (.leaf (.ret, ⟨[], [], [.int .i64 (a), .int .i64 (b), .int .i64 (c), .int .i64 (d), .int .i64 (s), .int .i64 (s)], []⟩))) (.need (b ≠ (0 : Int)) (.need (d ≠ (0 : Int)) (.ite (a.tmod b == (0 : Int)) (.ite (c.tmod d == (0 : Int)) (.leaf (.ret, ⟨[], [], [.int .i64 (a.tmod b), .int .i64 (b), .int .i64 (c.tmod d), .int .i64 (d), .int .i64 ((0 : Int)), .int .i64 (s)], []⟩)) (.ite (a.tmod b == (0 : Int)) (.need (inK IntKind.i64 ((0 : Int) - s)) (.leaf (.ret, ⟨[], [], [.int .i64 (a.tmod b), .int .i64 (b), .int .i64 (c.tmod d), .int .i64 (d), .int .i64 ((0 : Int) - s), .int .i64 (s)], []⟩))) (.ite (c.tmod d == (0 : Int)) (.leaf (.ret, ⟨[], [], [.int .i64 (a.tmod b), .int .i64 (b), .int .i64 (c.tmod d), .int .i64 (d), .int .i64 (s), .int .i64 (s)], []⟩)) (.need (inK IntKind.i64 ((0 : Int) - s)) (.leaf (.normal, ⟨[], [], [.int .i64 (b), .int .i64 (a.tmod b), .int .i64 (d), .int .i64 (c.tmod d), .int .i64 (r), .int .i64 ((0 : Int) - s)], []⟩)))))) (.ite (a.tmod b == (0 : Int)) (.need (inK IntKind.i64 ((0 : Int) - s)) (.leaf (.ret, ⟨[], [], [.int .i64 (a.tmod b), .int .i64 (b), .int .i64 (c.tmod d), .int .i64 (d), .int .i64 ((0 : Int) - s), .int .i64 (s)], []⟩))) (.ite (c.tmod d == (0 : Int)) (.leaf (.ret, ⟨[], [], [.int .i64 (a.tmod b), .int .i64 (b), .int .i64 (c.tmod d), .int .i64 (d), .int .i64 (s), .int .i64 (s)], []⟩)) (.need (inK IntKind.i64 ((0 : Int) - s)) (.leaf (.normal, ⟨[], [], [.int .i64 (b), .int .i64 (a.tmod b), .int .i64 (d), .int .i64 (c.tmod d), .int .i64 (r), .int .i64 ((0 : Int) - s)], []⟩)))))))))) := by kernel_rfl
  rw [htree]
  clear htree
  replace hp : (((0 ≤ a ∧ a ≤ 9223372036854775807) ∧ (1 ≤ b ∧ b ≤ 9223372036854775807)) ∧ ((0 ≤ c ∧ c ≤ 9223372036854775807) ∧ (1 ≤ d ∧ d ≤ 9223372036854775807))) ∧ (s = 1 ∨ s = -1) := hp
  have h0 := cmpV_step (s := s) (a := a) (b := b) (c := c) (d := d) (by omega) (by omega) (by omega) (by omega)
  have h1 := tdiv_small a b (by omega)
  have h2 := tdiv_small c d (by omega)
  have h3 := Int.tmod_lt_of_pos a (b := b) (by omega)
  have h4 := Int.tmod_lt_of_pos c (b := d) (by omega)
  have h5 := Int.tmod_nonneg b (a := a) (by omega)
  have h6 := Int.tmod_nonneg d (a := c) (by omega)
  simp only [Tree.ok, tyd_inj, packAV, AV.same, AV.same.sameL, encV, encS, enc, inK, Nd.ok, List.headD_cons, List.cons_append, List.nil_append, List.append_nil, true_and, and_true, Bool.true_and, Bool.and_true, loop_next, weakBs_nil, weakBs_cons, weakB_self, weakB_row, weakB_int, weakL_nil, weakL_unk, weakL_guess, isRow_own, isRow_unk, weakL_int, weakL_bool, weakL_str, weakL_own, weakL_view, weakL_nilS, noRow_int, noRow_bool, own_inj, LTree.val, cond_true, cond_false, Prod.mk.injEq, List.cons.injEq, AV.int.injEq, AV.bool.injEq, AV.str.injEq, AV.agg.injEq, ann_compareBig_0, Int.zero_sub]
  rw [h0]
  clear h0
  generalize a.tdiv b = q at *
  generalize c.tdiv d = r' at *
  generalize a.tmod b = a' at *
  generalize c.tmod d = c' at *
  generalize cmpV (-s) b a' d c' = V at *
  repeat' first | apply And.intro | intro _
  all_goals first | omega | assumption | trivial | (simp [Tree.ok, tyd_inj, packAV, AV.same, AV.same.sameL, encV, encS, enc, inK, Nd.ok, List.headD_cons, List.cons_append, List.nil_append, List.append_nil, true_and, and_true, Bool.true_and, Bool.and_true, loop_next, weakBs_nil, weakBs_cons, weakB_self, weakB_row, weakB_int, weakL_nil, weakL_unk, weakL_guess, isRow_own, isRow_unk, weakL_int, weakL_bool, weakL_str, weakL_own, weakL_view, weakL_nilS, noRow_int, noRow_bool, own_inj, LTree.val, cond_true, cond_false, Prod.mk.injEq, List.cons.injEq, AV.int.injEq, AV.bool.injEq, AV.str.injEq, AV.agg.injEq]; done) | (simp_all; done) | (simp_all; omega) | grind
theorem loops_compareBig : ∀ c, Tryz.f81.body = some c → LoopsOk Tryz.prog (addL (firstId (loopAt Tryz.f81 0)) ann_compareBig_0 noL) Tryz.f81.ntmps c := loopsN fun i hi ann h => by
  have hn : loopN Tryz.f81 = 1 := by kernel_rfl
  rw [hn] at hi
  exact match i, hi, h with
    | 0, _, h => (Option.some.inj ((show (addL (firstId (loopAt Tryz.f81 0)) ann_compareBig_0 noL) (firstId (loopAt Tryz.f81 0)) = some ann_compareBig_0 from by kernel_rfl).symm.trans h)) ▸ loop_compareBig_0
set_option maxHeartbeats 1000000 in
theorem sat_compareBig : Sat Tryz.prog 81 ct_compareBig := by
  refine sat_typed (C := C_Nk_1) (L := (addL (firstId (loopAt Tryz.f81 0)) ann_compareBig_0 noL)) (wr := false) mixedOk Tryz.func81 C_Nk_1_ok (loops_compareBig) (fun _ => by first | rfl | (simp [ownsOf, ownsOf.ownsL, enc, encV, encS])) fun x hp => ?_
  obtain ⟨(a : Int), (b : Int), (c : Int), (d : Int), _⟩ := x
  replace hp : ((0 ≤ a ∧ a ≤ 9223372036854775807) ∧ (1 ≤ b ∧ b ≤ 9223372036854775807)) ∧ ((0 ≤ c ∧ c ≤ 9223372036854775807) ∧ (1 ≤ d ∧ d ≤ 9223372036854775807)) := hp
  have htree : exFunc Tryz.prog C_Nk_1 false (addL (firstId (loopAt Tryz.f81 0)) ann_compareBig_0 noL) Tryz.f81 (encA [.v (.int .i64), .v (.int .i64), .v (.int .i64), .v (.int .i64)] (a, b, c, d, ())) = .need (((((0 : Int) ≤ a ∧ a ≤ (9223372036854775807 : Int)) ∧ (1 : Int) ≤ b ∧ b ≤ (9223372036854775807 : Int)) ∧ ((0 : Int) ≤ c ∧ c ≤ (9223372036854775807 : Int)) ∧ (1 : Int) ≤ d ∧ d ≤ (9223372036854775807 : Int)) ∧ ((1 : Int) = (1 : Int) ∨ (1 : Int) = (-1 : Int))) (.leaf [.int .i64 (cmpV (1 : Int) a b c d)]) := by kernel_rfl
  refine (congrArg (Tree.ok _) htree).mpr ?_
  clear htree
  simp only [Tree.ok, tyd_inj, packAV, AV.same, AV.same.sameL, encV, encS, enc, inK, Nd.ok, List.headD_cons, List.cons_append, List.nil_append, List.append_nil, true_and, and_true, Bool.true_and, Bool.and_true]
  repeat' first | apply And.intro | intro _
  all_goals first | omega | trivial | (simp_all; done) | grind
def C_Nk_2 : FuncId → Option Ct := addC 81 ct_compareBig C_Nk_1
theorem C_Nk_2_ok : COk Tryz.prog C_Nk_2 := addC_ok C_Nk_1_ok sat_compareBig
theorem freq_okF {x : tTuning.den} (hx : tuneF x = true) {k : Int} (hk : 0 ≤ k ∧ k ≤ 127) (c : (freqF x k).2 = 0) : okF (freqF x k).1.1 (freqF x k).1.2 = true := by
  have ht := hx
  simp only [tuneF, Bool.and_eq_true, decide_eq_true_eq] at ht
  obtain ⟨hb, hbp, ho, hop, hlen, hr0, hrat⟩ := ht
  obtain ⟨e1, f1⟩ := freqF_ex c
  rw [f1] at c ⊢
  have hd := div_key k ((x.2.2 : List tFrac.den).length : Int) hk (by omega)
  have hr := ratT_at x.2.2 _ _ _ 0 hrat (k % ((x.2.2 : List tFrac.den).length : Int)).toNat (by omega) (by omega)
  rcases mulF_ok (freqGo_ok ho (k / ((x.2.2 : List tFrac.den).length : Int)).toNat x.1 hb) hr.1 with g | g
  · exact g.2
  · omega
def nfK (x : tTuning.den) (k : Int) : Int := (freqF x k).1.1
def dfK (x : tTuning.den) (k : Int) : Int := (freqF x k).1.2
def cfK (x : tTuning.den) (k : Int) : Int := (freqF x k).2
theorem keyImp_step (nf df cf : Int → Int) (xn xd k best num den : Int) (h0 : 0 ≤ k) (h : k < 128) : keyImp nf df cf xn xd (128 - k).toNat k best num den =
    if cf k ≠ 0 then best
    else if best < 0 ∨ max (xn * df k - nf k * xd) (-(xn * df k - nf k * xd)) * den < num * (xd * df k) then
      keyImp nf df cf xn xd (128 - (k + 1)).toNat (k + 1) k (max (xn * df k - nf k * xd) (-(xn * df k - nf k * xd))) (xd * df k)
    else keyImp nf df cf xn xd (128 - (k + 1)).toNat (k + 1) best num den := by
  rw [show (128 - k).toNat = (128 - (k + 1)).toNat + 1 by omega]; rfl
def keyS (nf df cf : Int → Int) (xn xd : Int) : Nat → Int → Int → Int → Int → Bool × Int × Int × Int
  | 0, _, best, ln, ld => (false, best, ln, ld)
  | n + 1, k, best, ln, ld =>
    if cf k ≠ 0 then (false, best, ln, ld)
    else if k = 127 ∨ xn * df k ≤ nf k * xd then (true, (if 0 < k ∧ closerK ln ld (nf k) (df k) xn xd then k else best), nf k, df k)
    else keyS nf df cf xn xd n (k + 1) (if 0 < k ∧ closerK ln ld (nf k) (df k) xn xd then k else best) (nf k) (df k)
theorem keyS_step (nf df cf : Int → Int) (xn xd k best ln ld : Int) (h0 : 0 ≤ k) (h : k < 128) : keyS nf df cf xn xd (128 - k).toNat k best ln ld =
    if cf k ≠ 0 then (false, best, ln, ld)
    else if k = 127 ∨ xn * df k ≤ nf k * xd then (true, (if 0 < k ∧ closerK ln ld (nf k) (df k) xn xd then k else best), nf k, df k)
    else keyS nf df cf xn xd (128 - (k + 1)).toNat (k + 1) (if 0 < k ∧ closerK ln ld (nf k) (df k) xn xd then k else best) (nf k) (df k) := by
  rw [show (128 - k).toNat = (128 - (k + 1)).toNat + 1 by omega]; rfl
theorem keyS_spec (nf df cf : Int → Int) (xn xd : Int) : ∀ (n : Nat) (k best ln ld : Int), keySpec nf df cf xn xd n k best ln ld = if (keyS nf df cf xn xd n k best ln ld).1 = true then some (keyS nf df cf xn xd n k best ln ld).2.1 else keyEnd (keyS nf df cf xn xd n k best ln ld).2.1 (keyS nf df cf xn xd n k best ln ld).2.2.2
  | 0, _, _, _, _ => rfl
  | n + 1, k, best, ln, ld => by
    unfold keySpec keyS
    split
    · rfl
    · split
      · rfl
      · exact keyS_spec nf df cf xn xd n _ _ _ _
def keyOut : Option Int → Int × Int
  | some k => (k, 0)
  | none => (0, 2)
theorem keyOut_res (b : Int) : keyOut (keyRes b) = if b < 0 then (0, 2) else (b, 0) := by unfold keyRes; split <;> rfl
theorem keyOut_end (b d : Int) : keyOut (keyEnd b d) = if d = 0 then (0, 2) else (b, 0) := by unfold keyEnd; split <;> rfl
def nearF (x : tTuning.den) (a b : Int) : Int × Int := if tuneF x = true then (if okF a b = true then (if a < 0 then (0, 2) else keyOut (keySpec (nfK x) (dfK x) (cfK x) a b 128 0 0 0 0)) else (0, 1)) else (0, 1)
theorem nearF_imp {x : tTuning.den} (hx : tuneF x = true) {a b : Int} (hab : okF a b = true) : keyRes (keyImp (nfK x) (dfK x) (cfK x) a b 128 0 (-1) 0 1) = keySpec (nfK x) (dfK x) (cfK x) a b 128 0 0 0 0 := by
  have hb := (okF_bd hab).1
  refine key_same (by omega) (fun k h0 h1 hc => ?_) (fun k h0 h1 hc hc' => freq_rise hx h0 hc hc')
  have := (okF_bd (freq_okF hx ⟨h0, h1⟩ hc)).1
  unfold dfK
  omega
theorem dist_bd {a b c d : Int} (h1 : okF a b = true) (h2 : okF c d = true) : (0 ≤ max (a * d - c * b) (-(a * d - c * b)) ∧ max (a * d - c * b) (-(a * d - c * b)) ≤ 2000000000000000) ∧ (1 ≤ b * d ∧ b * d ≤ 1000000000000) := by
  have k1 := okF_bd h1
  have k2 := okF_bd h2
  have h1 := mul_bd k1.2 k2.1
  have h2 := mul_bd k2.2 k1.1
  have h3 := mul_bd2 k1.1 k2.1
  omega
theorem cmpV_lt (a b c d : Int) : cmpV 1 a b c d < 0 ↔ a * d < c * b := by
  unfold cmpV
  split
  · omega
  · split <;> omega
theorem cmpF_ge (a b c d : Int) : 0 ≤ cmpF a b c d ↔ c * b ≤ a * d := by
  unfold cmpF
  split
  · omega
  · split <;> omega
def ann_iNearestKey_0 : LAnn := { sameS := [2, 3, 4, 5], modS := [6, 7, 8, 9], sameH := [2, 3], modH := [], base := 900000, nilE := [], nilB := [], G := fun
  | ⟨[.ptr 2 0, .ptr 3 0, .int .i64 r0, .int .i64 r1], [.box [.int .i64 b1, .int .i64 b2, .int .i64 oa, .int .i64 ob, .view (.pair (.int .i64) (.int .i64)) rs], .box [.int .i64 xn, .int .i64 xd]], [.int .i64 best, .int .i64 num, .int .i64 den, .int .i64 key], []⟩ => some (.p ((tuneF ((b1, b2), (oa, ob), rs) = true ∧ okF xn xd = true) ∧ (0 ≤ key ∧ key ≤ 128) ∧ (0 ≤ num ∧ num ≤ 2000000000000000) ∧ (1 ≤ den ∧ den ≤ 1000000000000)), .leaf (.exit 0) [.int .i64 (keyImp (nfK ((b1, b2), (oa, ob), rs)) (dfK ((b1, b2), (oa, ob), rs)) (cfK ((b1, b2), (oa, ob), rs)) xn xd (128 - key).toNat key best num den), .unk, .unk, .unk] [])
  | _ => none }
def ct_iNearestKey : Ct := ctOf [.s tTuning, .s tFrac] (fun ((x : tTuning.den), ((a : Int), (b : Int)), _) => .p (((x.2.2 : List tFrac.den).length : Int) ≤ 9223372036854775807)) (fun ((x : tTuning.den), ((a : Int), (b : Int)), _) => .tup [.int .i64 (nearF x a b).1, .int .i64 (nearF x a b).2])
set_option maxHeartbeats 1000000 in
theorem loop_iNearestKey_0 : LoopSat Tryz.prog Tryz.f25.ntmps (loopAt Tryz.f25 0) ann_iNearestKey_0 := by
  refine loopSat_of (C := C_Nk_2) (L := (addL (firstId (loopAt Tryz.f25 0)) ann_iNearestKey_0 noL)) (wr := false) mixedOk C_Nk_2_ok (loopsIn0 (by kernel_rfl)) (fun d => match d.vals with | [_, _, _, .int _ k] => (128 - k).toNat | _ => 0) fun d p t hG hp => ?_
  simp only [ann_iNearestKey_0] at hG
  split at hG
  rotate_left
  · simp at hG
  rename_i r0 r1 b1 b2 oa ob rs xn xd best num den key
  simp only [Option.some.injEq, Prod.mk.injEq] at hG
  obtain ⟨rfl, rfl⟩ := hG
  have htree : exRound Tryz.prog C_Nk_2 false (addL (firstId (loopAt Tryz.f25 0)) ann_iNearestKey_0 noL) Tryz.f25.ntmps ann_iNearestKey_0 (loopAt Tryz.f25 0) ⟨[.ptr 2 0, .ptr 3 0, .int .i64 r0, .int .i64 r1], [.box [.int .i64 b1, .int .i64 b2, .int .i64 oa, .int .i64 ob, .view tFrac rs], .box [.int .i64 xn, .int .i64 xd]], [.int .i64 best, .int .i64 num, .int .i64 den, .int .i64 key], []⟩ = .ite (decide (key ≤ (127 : Int))) (.need (tuneF ((b1, b2), (oa, ob), rs) = true ∧ (0 : Int) ≤ key ∧ key ≤ (127 : Int)) (.ite ((freqF ((b1, b2), (oa, ob), rs) key).snd != (0 : Int)) (.leaf ((.exit 0), ⟨[.ptr 2 0, .ptr 3 0, .int .i64 (r0), .int .i64 (r1)], [.box [.int .i64 (b1), .int .i64 (b2), .int .i64 (oa), .int .i64 (ob), .view (I64.pair I64) (rs)], .box [.int .i64 (xn), .int .i64 (xd)]], [.int .i64 (best), .int .i64 (num), .int .i64 (den), .int .i64 (key)], []⟩)) (.need ((((1 : Int) ≤ xd ∧ xd ≤ (1000000 : Int)) ∧ (-1000000000 : Int) ≤ xn ∧ xn ≤ (1000000000 : Int)) ∧ ((1 : Int) ≤ (freqF ((b1, b2), (oa, ob), rs) key).fst.snd ∧ (freqF ((b1, b2), (oa, ob), rs) key).fst.snd ≤ (1000000 : Int)) ∧ (-1000000000 : Int) ≤ (freqF ((b1, b2), (oa, ob), rs) key).fst.fst ∧ (freqF ((b1, b2), (oa, ob), rs) key).fst.fst ≤ (1000000000 : Int)) (.ite (decide (best < (0 : Int))) (.need (inK IntKind.i64 (key + (1 : Int))) (.leaf (.normal, ⟨[.ptr 2 0, .ptr 3 0, .int .i64 (r0), .int .i64 (r1)], [.box [.int .i64 (b1), .int .i64 (b2), .int .i64 (oa), .int .i64 (ob), .view (I64.pair I64) (rs)], .box [.int .i64 (xn), .int .i64 (xd)]], [.int .i64 (key), .int .i64 (max (xn * (freqF ((b1, b2), (oa, ob), rs) key).fst.snd - (freqF ((b1, b2), (oa, ob), rs) key).fst.fst * xd) (-(xn * (freqF ((b1, b2), (oa, ob), rs) key).fst.snd - (freqF ((b1, b2), (oa, ob), rs) key).fst.fst * xd))), .int .i64 (xd * (freqF ((b1, b2), (oa, ob), rs) key).fst.snd), .int .i64 (key + (1 : Int))], []⟩))) (.need ((((0 : Int) ≤ max (xn * (freqF ((b1, b2), (oa, ob), rs) key).fst.snd - (freqF ((b1, b2), (oa, ob), rs) key).fst.fst * xd) (-(xn * (freqF ((b1, b2), (oa, ob), rs) key).fst.snd - (freqF ((b1, b2), (oa, ob), rs) key).fst.fst * xd)) ∧ max (xn * (freqF ((b1, b2), (oa, ob), rs) key).fst.snd - (freqF ((b1, b2), (oa, ob), rs) key).fst.fst * xd) (-(xn * (freqF ((b1, b2), (oa, ob), rs) key).fst.snd - (freqF ((b1, b2), (oa, ob), rs) key).fst.fst * xd)) ≤ (9223372036854775807 : Int)) ∧ (1 : Int) ≤ xd * (freqF ((b1, b2), (oa, ob), rs) key).fst.snd ∧ xd * (freqF ((b1, b2), (oa, ob), rs) key).fst.snd ≤ (9223372036854775807 : Int)) ∧ ((0 : Int) ≤ num ∧ num ≤ (9223372036854775807 : Int)) ∧ (1 : Int) ≤ den ∧ den ≤ (9223372036854775807 : Int)) (.ite (decide (cmpV (1 : Int) (max (xn * (freqF ((b1, b2), (oa, ob), rs) key).fst.snd - (freqF ((b1, b2), (oa, ob), rs) key).fst.fst * xd) (-(xn * (freqF ((b1, b2), (oa, ob), rs) key).fst.snd - (freqF ((b1, b2), (oa, ob), rs) key).fst.fst * xd))) (xd * (freqF ((b1, b2), (oa, ob), rs) key).fst.snd) num den < (0 : Int))) (.need (inK IntKind.i64 (key + (1 : Int))) (.leaf (.normal, ⟨[.ptr 2 0, .ptr 3 0, .int .i64 (r0), .int .i64 (r1)], [.box [.int .i64 (b1), .int .i64 (b2), .int .i64 (oa), .int .i64 (ob), .view (I64.pair I64) (rs)], .box [.int .i64 (xn), .int .i64 (xd)]], [.int .i64 (key), .int .i64 (max (xn * (freqF ((b1, b2), (oa, ob), rs) key).fst.snd - (freqF ((b1, b2), (oa, ob), rs) key).fst.fst * xd) (-(xn * (freqF ((b1, b2), (oa, ob), rs) key).fst.snd - (freqF ((b1, b2), (oa, ob), rs) key).fst.fst * xd))), .int .i64 (xd * (freqF ((b1, b2), (oa, ob), rs) key).fst.snd), .int .i64 (key + (1 : Int))], []⟩))) (.need (inK IntKind.i64 (key + (1 : Int))) (.leaf (.normal, ⟨[.ptr 2 0, .ptr 3 0, .int .i64 (r0), .int .i64 (r1)], [.box [.int .i64 (b1), .int .i64 (b2), .int .i64 (oa), .int .i64 (ob), .view (I64.pair I64) (rs)], .box [.int .i64 (xn), .int .i64 (xd)]], [.int .i64 (best), .int .i64 (num), .int .i64 (den), .int .i64 (key + (1 : Int))], []⟩))))))))) (.leaf ((.exit 0), ⟨[.ptr 2 0, .ptr 3 0, .int .i64 (r0), .int .i64 (r1)], [.box [.int .i64 (b1), .int .i64 (b2), .int .i64 (oa), .int .i64 (ob), .view (I64.pair I64) (rs)], .box [.int .i64 (xn), .int .i64 (xd)]], [.int .i64 (best), .int .i64 (num), .int .i64 (den), .int .i64 (key)], []⟩)) := by kernel_rfl
  rw [htree]
  clear htree
  replace hp : (tuneF ((b1, b2), (oa, ob), rs) = true ∧ okF xn xd = true) ∧ (0 ≤ key ∧ key ≤ 128) ∧ (0 ≤ num ∧ num ≤ 2000000000000000) ∧ (1 ≤ den ∧ den ≤ 1000000000000) := hp
  obtain ⟨⟨ht, hx⟩, hk, hn, hd⟩ := hp
  have h1 := keyImp_step (nfK ((b1, b2), (oa, ob), rs)) (dfK ((b1, b2), (oa, ob), rs)) (cfK ((b1, b2), (oa, ob), rs)) xn xd key best num den hk.1
  have e1 : nfK ((b1, b2), (oa, ob), rs) key = (freqF ((b1, b2), (oa, ob), rs) key).1.1 := rfl
  have e2 : dfK ((b1, b2), (oa, ob), rs) key = (freqF ((b1, b2), (oa, ob), rs) key).1.2 := rfl
  have e3 : cfK ((b1, b2), (oa, ob), rs) key = (freqF ((b1, b2), (oa, ob), rs) key).2 := rfl
  simp only [e1, e2, e3] at h1
  have hok := fun (h : key < 128) hc => freq_okF ht (k := key) ⟨hk.1, by omega⟩ hc
  simp only [Tree.ok, tyd_inj, packAV, AV.same, AV.same.sameL, encV, encS, enc, inK, Nd.ok, List.headD_cons, List.cons_append, List.nil_append, List.append_nil, true_and, and_true, Bool.true_and, Bool.and_true, loop_next, weakBs_nil, weakBs_cons, weakB_self, weakB_row, weakB_int, weakL_nil, weakL_unk, weakL_guess, isRow_own, isRow_unk, weakL_int, weakL_bool, weakL_str, weakL_own, weakL_view, weakL_nilS, noRow_int, noRow_bool, own_inj, LTree.val, cond_true, cond_false, Prod.mk.injEq, List.cons.injEq, AV.int.injEq, AV.bool.injEq, AV.str.injEq, AV.agg.injEq, ann_iNearestKey_0, decide_eq_true_eq, decide_eq_false_iff_not, cmpV_lt, bne_iff_ne, ne_eq, bne_eq_false_iff_eq]
  have h2 : ¬ key < 128 → keyImp (nfK ((b1, b2), (oa, ob), rs)) (dfK ((b1, b2), (oa, ob), rs)) (cfK ((b1, b2), (oa, ob), rs)) xn xd (128 - key).toNat key best num den = best := fun h => by rw [show (128 - key).toNat = 0 by omega]; rfl
  generalize keyImp (nfK ((b1, b2), (oa, ob), rs)) (dfK ((b1, b2), (oa, ob), rs)) (cfK ((b1, b2), (oa, ob), rs)) xn xd = G at *
  generalize freqF ((b1, b2), (oa, ob), rs) key = F at *
  obtain ⟨⟨p, q⟩, c⟩ := F
  dsimp only at *
  refine ⟨fun ha => ?_, fun ha => ?_⟩
  · rw [h1 (by omega)]
    have hok := hok (by omega)
    by_cases hc : c = 0
    · have hok := hok hc
      have hb := okF_bd hok
      have hbx := okF_bd hx
      have hdd := dist_bd hx hok
      rw [if_neg (fun h => h hc)]
      by_cases hs : best < 0 ∨ max (xn * q - p * xd) (-(xn * q - p * xd)) * den < num * (xd * q)
      · rw [if_pos hs]
        generalize G (128 - (key + 1)).toNat (key + 1) = G' at *
        repeat' first | apply And.intro | intro _
        all_goals first | omega | assumption | trivial | (simp [Tree.ok, tyd_inj, packAV, AV.same, AV.same.sameL, encV, encS, enc, inK, Nd.ok, List.headD_cons, List.cons_append, List.nil_append, List.append_nil, true_and, and_true, Bool.true_and, Bool.and_true, loop_next, weakBs_nil, weakBs_cons, weakB_self, weakB_row, weakB_int, weakL_nil, weakL_unk, weakL_guess, isRow_own, isRow_unk, weakL_int, weakL_bool, weakL_str, weakL_own, weakL_view, weakL_nilS, noRow_int, noRow_bool, own_inj, LTree.val, cond_true, cond_false, Prod.mk.injEq, List.cons.injEq, AV.int.injEq, AV.bool.injEq, AV.str.injEq, AV.agg.injEq]; done) | (simp_all; done) | (simp_all; omega)
      · rw [if_neg hs]
        generalize G (128 - (key + 1)).toNat (key + 1) = G' at *
        repeat' first | apply And.intro | intro _
        all_goals first | omega | assumption | trivial | (simp [Tree.ok, tyd_inj, packAV, AV.same, AV.same.sameL, encV, encS, enc, inK, Nd.ok, List.headD_cons, List.cons_append, List.nil_append, List.append_nil, true_and, and_true, Bool.true_and, Bool.and_true, loop_next, weakBs_nil, weakBs_cons, weakB_self, weakB_row, weakB_int, weakL_nil, weakL_unk, weakL_guess, isRow_own, isRow_unk, weakL_int, weakL_bool, weakL_str, weakL_own, weakL_view, weakL_nilS, noRow_int, noRow_bool, own_inj, LTree.val, cond_true, cond_false, Prod.mk.injEq, List.cons.injEq, AV.int.injEq, AV.bool.injEq, AV.str.injEq, AV.agg.injEq]; done) | (simp_all; done) | (simp_all; omega)
    · rw [if_pos hc]
      repeat' first | apply And.intro | intro _
      all_goals first | omega | assumption | trivial | (simp [Tree.ok, tyd_inj, packAV, AV.same, AV.same.sameL, encV, encS, enc, inK, Nd.ok, List.headD_cons, List.cons_append, List.nil_append, List.append_nil, true_and, and_true, Bool.true_and, Bool.and_true, loop_next, weakBs_nil, weakBs_cons, weakB_self, weakB_row, weakB_int, weakL_nil, weakL_unk, weakL_guess, isRow_own, isRow_unk, weakL_int, weakL_bool, weakL_str, weakL_own, weakL_view, weakL_nilS, noRow_int, noRow_bool, own_inj, LTree.val, cond_true, cond_false, Prod.mk.injEq, List.cons.injEq, AV.int.injEq, AV.bool.injEq, AV.str.injEq, AV.agg.injEq]; done) | (simp_all; done) | (simp_all; omega)
  · rw [h2 (by omega)]
    (try simp [Tree.ok, tyd_inj, packAV, AV.same, AV.same.sameL, encV, encS, enc, inK, Nd.ok, List.headD_cons, List.cons_append, List.nil_append, List.append_nil, true_and, and_true, Bool.true_and, Bool.and_true, loop_next, weakBs_nil, weakBs_cons, weakB_self, weakB_row, weakB_int, weakL_nil, weakL_unk, weakL_guess, isRow_own, isRow_unk, weakL_int, weakL_bool, weakL_str, weakL_own, weakL_view, weakL_nilS, noRow_int, noRow_bool, own_inj, LTree.val, cond_true, cond_false, Prod.mk.injEq, List.cons.injEq, AV.int.injEq, AV.bool.injEq, AV.str.injEq, AV.agg.injEq])
theorem loops_iNearestKey : ∀ c, Tryz.f25.body = some c → LoopsOk Tryz.prog (addL (firstId (loopAt Tryz.f25 0)) ann_iNearestKey_0 noL) Tryz.f25.ntmps c := loopsN fun i hi ann h => by
  have hn : loopN Tryz.f25 = 1 := by kernel_rfl
  rw [hn] at hi
  exact match i, hi, h with
    | 0, _, h => (Option.some.inj ((show (addL (firstId (loopAt Tryz.f25 0)) ann_iNearestKey_0 noL) (firstId (loopAt Tryz.f25 0)) = some ann_iNearestKey_0 from by kernel_rfl).symm.trans h)) ▸ loop_iNearestKey_0
set_option maxHeartbeats 1000000 in
theorem sat_iNearestKey : Sat Tryz.prog 25 ct_iNearestKey := by
  refine sat_typed (C := C_Nk_2) (L := (addL (firstId (loopAt Tryz.f25 0)) ann_iNearestKey_0 noL)) (wr := false) mixedOk Tryz.func25 C_Nk_2_ok (loops_iNearestKey) (fun _ => by first | rfl | (simp [ownsOf, ownsOf.ownsL, enc, encV, encS])) fun x hp => ?_
  obtain ⟨(x : tTuning.den), ⟨(a : Int), (b : Int)⟩, _⟩ := x
  replace hp : ((x.2.2 : List tFrac.den).length : Int) ≤ 9223372036854775807 := hp
  have htree : exFunc Tryz.prog C_Nk_2 false (addL (firstId (loopAt Tryz.f25 0)) ann_iNearestKey_0 noL) Tryz.f25 (encA [.s tTuning, .s tFrac] (x, (a, b), ())) = .need ((↑(List.length x.snd.snd) : Int) ≤ (9223372036854775807 : Int)) (.ite (!tuneF ((x.fst.fst, x.fst.snd), (x.snd.fst.fst, x.snd.fst.snd), x.snd.snd)) (.leaf [.int .i64 ((0 : Int)), .int .i64 ((1 : Int))]) (.ite (!okF a b) (.leaf [.int .i64 ((0 : Int)), .int .i64 ((1 : Int))]) (.ite (decide (a < (0 : Int))) (.leaf [.int .i64 ((0 : Int)), .int .i64 ((2 : Int))]) (.need ((tuneF ((x.fst.fst, x.fst.snd), (x.snd.fst.fst, x.snd.fst.snd), x.snd.snd) = true ∧ okF a b = true) ∧ ((0 : Int) ≤ (0 : Int) ∧ (0 : Int) ≤ (128 : Int)) ∧ ((0 : Int) ≤ (0 : Int) ∧ (0 : Int) ≤ (2000000000000000 : Int)) ∧ (1 : Int) ≤ (1 : Int) ∧ (1 : Int) ≤ (1000000000000 : Int)) (.ite (decide (keyImp (nfK ((x.fst.fst, x.fst.snd), (x.snd.fst.fst, x.snd.fst.snd), x.snd.snd)) (dfK ((x.fst.fst, x.fst.snd), (x.snd.fst.fst, x.snd.fst.snd), x.snd.snd)) (cfK ((x.fst.fst, x.fst.snd), (x.snd.fst.fst, x.snd.fst.snd), x.snd.snd)) a b ((128 : Int) - (0 : Int)).toNat (0 : Int) (-1 : Int) (0 : Int) (1 : Int) < (0 : Int))) (.leaf [.int .i64 ((0 : Int)), .int .i64 ((2 : Int))]) (.leaf [.int .i64 (keyImp (nfK ((x.fst.fst, x.fst.snd), (x.snd.fst.fst, x.snd.fst.snd), x.snd.snd)) (dfK ((x.fst.fst, x.fst.snd), (x.snd.fst.fst, x.snd.fst.snd), x.snd.snd)) (cfK ((x.fst.fst, x.fst.snd), (x.snd.fst.fst, x.snd.fst.snd), x.snd.snd)) a b ((128 : Int) - (0 : Int)).toNat (0 : Int) (-1 : Int) (0 : Int) (1 : Int)), .int .i64 ((0 : Int))])))))) := by kernel_rfl
  refine (congrArg (Tree.ok _) htree).mpr ?_
  clear htree
  have e0 : ((x.1.1, x.1.2), (x.2.1.1, x.2.1.2), x.2.2) = x := rfl
  simp only [Tree.ok, tyd_inj, packAV, AV.same, AV.same.sameL, encV, encS, enc, inK, Nd.ok, List.headD_cons, List.cons_append, List.nil_append, List.append_nil, true_and, and_true, Bool.true_and, Bool.and_true, e0, nearF, decide_eq_true_eq, decide_eq_false_iff_not, Bool.not_eq_true', Bool.not_eq_false']
  rw [show ((128 : Int) - 0).toNat = 128 from rfl]
  by_cases ht : tuneF x = true
  · by_cases ho : okF a b = true
    · have hn := nearF_imp ht ho
      simp only [if_pos ht, if_pos ho, ← hn, keyOut_res]
      by_cases ha0 : a < 0 <;> (try simp only [if_pos ha0]) <;> (try simp only [if_neg ha0])
      all_goals generalize keyImp (nfK x) (dfK x) (cfK x) a b 128 0 (-1) 0 1 = K at *
      all_goals by_cases hk0 : K < 0 <;> (try simp only [if_pos hk0]) <;> (try simp only [if_neg hk0])
      all_goals repeat' first | apply And.intro | intro _
      all_goals first | omega | assumption | trivial | (simp_all; done) | (simp_all; omega)
    · simp only [if_pos ht, if_neg ho]
      repeat' first | apply And.intro | intro _
      all_goals first | omega | assumption | trivial | (simp_all; done) | (simp_all; omega)
  · simp only [if_neg ht]
    repeat' first | apply And.intro | intro _
    all_goals first | omega | assumption | trivial | (simp_all; done) | (simp_all; omega)
def C_Nk_3 : FuncId → Option Ct := addC 25 ct_iNearestKey C_Nk_2
theorem C_Nk_3_ok : COk Tryz.prog C_Nk_3 := addC_ok C_Nk_2_ok sat_iNearestKey

def C_Nk : FuncId → Option Ct := C_Nk_3
theorem C_Nk_ok : COk Tryz.prog C_Nk := C_Nk_3_ok
end Go.Proofs.YtkeckmdmmbeaiaaGreatDoor
namespace Go.Proofs.YtkeckmdmmbeaiaaGreatDoor
open Go.RowKit Sx
/-- A fraction is made where a valid one of the same value is. -/
theorem mkF_of {x : Fr} {n d : Int} (hx : okF x.1 x.2 = true) (hd : 0 < d) (h : x.1 * d = n * x.2) : mkF n d = (x, 0) := by
  have hb := okF_bd hx
  have hx' := hx
  simp only [okF, Bool.and_eq_true, inB_iff, beq_iff_eq] at hx'
  have gx : Int.gcd x.1 x.2 = 1 := by have := hx'.2.2; omega
  have dv : x.2 ∣ d := by
    have : x.2 ∣ d * x.1 := ⟨n, by rw [Int.mul_comm d, h, Int.mul_comm]⟩
    exact int_cop gx this
  obtain ⟨g, hg⟩ := dv
  have hgp : 0 < g := by
    rcases Int.lt_or_le 0 g with h1 | h1
    · exact h1
    · have : x.2 * g ≤ 0 := Int.mul_nonpos_of_nonneg_of_nonpos (by omega) h1
      omega
  have hn : n = g * x.1 := by
    rw [hg] at h
    have h2 : x.2 * n = x.2 * (g * x.1) := by grind
    exact Int.eq_of_mul_eq_mul_left (by omega) h2
  have hG : (Int.gcd n d : Int) = g := by
    rw [hn, hg, Int.mul_comm x.2 g, Int.gcd_mul_left, gx]
    omega
  have hm := mkF_pos n d (by omega)
  rw [hG] at hm
  have e1 : (n.natAbs : Int) / g = (x.1.natAbs : Int) := by
    rw [hn, Int.natAbs_mul]
    have : ((g.natAbs * x.1.natAbs : Nat) : Int) = g * (x.1.natAbs : Int) := by rw [Int.natCast_mul]; congr 1; omega
    rw [this]
    exact Int.mul_ediv_cancel_left _ (by omega)
  have e2 : (d.natAbs : Int) / g = x.2 := by
    rw [show (d.natAbs : Int) = d by omega, hg]
    exact Int.mul_ediv_cancel _ (by omega)
  rw [e1, e2, if_neg (by omega)] at hm
  rw [hm, show decide (d < 0) = false by simp; omega]
  by_cases h0 : x.1 < 0
  · have : n < 0 := by rw [hn]; exact Int.mul_neg_of_pos_of_neg hgp h0
    rw [decide_eq_true this]
    simp only [Bool.true_bne, Bool.not_false, if_true]
    exact Prod.ext (Prod.ext (by simp only; omega) rfl) rfl
  · have : ¬ n < 0 := by rw [hn]; have := Int.mul_nonneg (a := g) (b := x.1) (by omega) (by omega); omega
    rw [decide_eq_false this]
    simp only [bne_self_eq_false, Bool.false_eq_true, if_false]
    exact Prod.ext (Prod.ext (by simp only; omega) rfl) rfl
theorem opF_of {x : Fr} {n d : Int} (hx : okF x.1 x.2 = true) (hd : 0 < d) (h : qF x = (n : Rat) / (d : Rat)) : opF n d true = (x, 0) := by
  have e : opF n d true = mkF n d := by unfold opF; rfl
  rw [e]
  refine mkF_of hx hd ?_
  have h1 := (okF_den hx).1
  have h2 := cast_ne (show d ≠ 0 by omega)
  unfold qF at h
  have : (x.1 : Rat) * (d : Rat) = (n : Rat) * (x.2 : Rat) := by grind
  exact_mod_cast this
theorem addF_of {a b x : Fr} (ha : okF a.1 a.2 = true) (hb : okF b.1 b.2 = true) (hx : okF x.1 x.2 = true) (h : qF x = qF a + qF b) : addF a.1 a.2 b.1 b.2 = (x, 0) := by
  unfold addF
  rw [ha, hb]
  refine opF_of hx (Int.mul_pos (okF_den ha).2 (okF_den hb).2) ?_
  rw [h]
  have h1 := (okF_den ha).1
  have h2 := (okF_den hb).1
  unfold qF
  simp only [Rat.intCast_mul, Rat.intCast_add]
  grind
theorem subF_of {a b x : Fr} (ha : okF a.1 a.2 = true) (hb : okF b.1 b.2 = true) (hx : okF x.1 x.2 = true) (h : qF x = qF a - qF b) : subF a.1 a.2 b.1 b.2 = (x, 0) := by
  unfold subF
  rw [ha, hb]
  refine opF_of hx (Int.mul_pos (okF_den ha).2 (okF_den hb).2) ?_
  rw [h]
  have h1 := (okF_den ha).1
  have h2 := (okF_den hb).1
  unfold qF
  simp only [Rat.intCast_mul, Rat.intCast_sub]
  grind
theorem mulF_of {a b x : Fr} (ha : okF a.1 a.2 = true) (hb : okF b.1 b.2 = true) (hx : okF x.1 x.2 = true) (h : qF x = qF a * qF b) : mulF a.1 a.2 b.1 b.2 = (x, 0) := by
  unfold mulF
  rw [ha, hb]
  refine opF_of hx (Int.mul_pos (okF_den ha).2 (okF_den hb).2) ?_
  rw [h]
  have h1 := (okF_den ha).1
  have h2 := (okF_den hb).1
  unfold qF
  simp only [Rat.intCast_mul]
  grind
/-- The fraction n / 24. -/
def r24 (n : Int) : Fr := (mkF n 24).1
theorem r24_ok {n : Int} (h : 0 ≤ n ∧ n ≤ 1000000000) : okF (r24 n).1 (r24 n).2 = true ∧ qF (r24 n) = (n : Rat) / 24 ∧ 0 ≤ (r24 n).1 := by
  obtain ⟨z, p0, ho, _⟩ := mkF_small (n := n) (d := 24) h (by omega)
  refine ⟨ho, ?_, p0⟩
  have := mkF_q (n := n) (d := 24) (by omega) z
  exact this
theorem add24 {x y : Int} (hx : 0 ≤ x) (hy : 0 ≤ y) (h : x + y ≤ 1000000000) : addF (r24 x).1 (r24 x).2 (r24 y).1 (r24 y).2 = (r24 (x + y), 0) := by
  have h1 := r24_ok (n := x) (by omega)
  have h2 := r24_ok (n := y) (by omega)
  have h3 := r24_ok (n := x + y) (by omega)
  refine addF_of h1.1 h2.1 h3.1 ?_
  rw [h1.2.1, h2.2.1, h3.2.1, Rat.intCast_add]
  grind
theorem sub24 {x y : Int} (hy : 0 ≤ y) (hx : y ≤ x) (h : x ≤ 1000000000) : subF (r24 x).1 (r24 x).2 (r24 y).1 (r24 y).2 = (r24 (x - y), 0) := by
  have h1 := r24_ok (n := x) (by omega)
  have h2 := r24_ok (n := y) (by omega)
  have h3 := r24_ok (n := x - y) (by omega)
  refine subF_of h1.1 h2.1 h3.1 ?_
  rw [h1.2.1, h2.2.1, h3.2.1, Rat.intCast_sub]
  grind
theorem mul24 {x s : Int} (hx : 0 ≤ x ∧ x ≤ 1000000) (hs : 1 ≤ s ∧ s ≤ 1000) : mulF (r24 x).1 (r24 x).2 s 1 = (r24 (x * s), 0) := by
  have hm : 0 ≤ x * s := Int.mul_nonneg hx.1 (by omega)
  have hm2 : x * s ≤ 1000000 * 1000 := Int.mul_le_mul hx.2 hs.2 (by omega) (by omega)
  have h1 := r24_ok (n := x) (by omega)
  have h3 := r24_ok (n := x * s) (by omega)
  refine mulF_of (b := (s, 1)) h1.1 (okF_int (n := s) (by omega)) h3.1 ?_
  rw [h1.2.1, h3.2.1, Rat.intCast_mul, qF_int]
  grind
theorem on24 {x y s p : Int} (hx : 0 ≤ x ∧ x ≤ y) (hy : y ≤ 1000000) (hs : 1 ≤ s ∧ s ≤ 1000) (hp : 0 ≤ p ∧ p + (y - x) * s ≤ 1000000000) : onF (r24 x) (r24 y) s (r24 p) = (r24 (p + (y - x) * s), 0) := by
  unfold onF
  have hm : 0 ≤ (y - x) * s := Int.mul_nonneg (by omega) (by omega)
  rw [sub24 (by omega) hx.2 (by omega)]
  simp only [if_true]
  rw [mul24 (by omega) hs]
  simp only [if_true]
  exact add24 hp.1 hm hp.2
/-! ### drawn beats -/
theorem r24_cross {x : Int} (h : 0 ≤ x ∧ x ≤ 1000000000) : (r24 x).1 * 24 = x * (r24 x).2 := (mkF_part (n := x) (d := 24) (by omega) (mkF_small h (by omega)).1).1
theorem r24_le {x c : Int} (h : 0 ≤ x ∧ x ≤ 1000000000) (hc : x ≤ 24 * c) : (r24 x).1 ≤ c * (r24 x).2 := by
  have e := r24_cross h
  have d := (okF_den (r24_ok h).1).2
  have : x * (r24 x).2 ≤ 24 * c * (r24 x).2 := Int.mul_le_mul_of_nonneg_right hc (by omega)
  rw [← e, Int.mul_assoc] at this
  omega
theorem r24_lt {x y : Int} (hx : 0 ≤ x) (h : x < y) (hy : y ≤ 1000000000) : cmpB (r24 x) (r24 y) < 0 := by
  have h1 := r24_ok (n := x) (by omega)
  have h2 := r24_ok (n := y) (by omega)
  rw [qF_le (okF_den h1.1).2 (okF_den h2.1).2, h1.2.1, h2.2.1]
  have : (x : Rat) < (y : Rat) := by exact_mod_cast h
  grind
theorem r24_zero : r24 0 = (0, 1) := by unfold r24; rw [mkF_zero (by omega)]
theorem r24_half : r24 12 = (1, 2) := by
  have h := r24_ok (n := 12) (by omega)
  refine qF_inj h.1 (show okF 1 2 = true by decide) ?_
  rw [h.2.1]
  unfold qF
  have e1 : ((12 : Int) : Rat) = 12 := rfl
  have e2 : ((1 : Int) : Rat) = 1 := rfl
  have e3 : ((2 : Int) : Rat) = 2 := rfl
  simp only [e1, e2, e3]
  grind
theorem beat24 {s : Src} {m : Int} (h : okS s m) {most : Int} (hm : 0 ≤ most ∧ most ≤ 1000) : ∃ M, (0 ≤ M ∧ M ≤ 24 * most) ∧ (beatS s most).1 = r24 M := by
  have hd := amongS_mem h beatL (by decide)
  have hq := amongS_ok h beatL
  have hp := pickS_bd hq (most * (amongS s beatL).1 + 1)
  have ho := (beatS_bd h hm).1
  have eB : (beatS s most).1 = (mkF (pickS (amongS s beatL).2 (most * (amongS s beatL).1 + 1)).1 (amongS s beatL).1).1 := rfl
  rw [eB] at ho ⊢
  generalize (pickS (amongS s beatL).2 (most * (amongS s beatL).1 + 1)).1 = n at *
  generalize (amongS s beatL).1 = d at *
  have hc : ∃ c : Int, d * c = 24 ∧ 0 < c ∧ 1 ≤ d ∧ d ≤ 8 := by
    simp only [beatL, List.mem_cons, List.not_mem_nil, or_false] at hd
    rcases hd with h | h | h | h | h | h | h | h | h <;> subst h
    · exact ⟨24, by decide, by decide, by decide, by decide⟩
    · exact ⟨24, by decide, by decide, by decide, by decide⟩
    · exact ⟨12, by decide, by decide, by decide, by decide⟩
    · exact ⟨12, by decide, by decide, by decide, by decide⟩
    · exact ⟨8, by decide, by decide, by decide, by decide⟩
    · exact ⟨6, by decide, by decide, by decide, by decide⟩
    · exact ⟨6, by decide, by decide, by decide, by decide⟩
    · exact ⟨4, by decide, by decide, by decide, by decide⟩
    · exact ⟨3, by decide, by decide, by decide, by decide⟩
  obtain ⟨c, e, c0, d1, d8⟩ := hc
  have m0 : 0 ≤ most * d := Int.mul_nonneg hm.1 (by omega)
  have m1 : most * d ≤ 1000 * d := Int.mul_le_mul_of_nonneg_right hm.2 (by omega)
  have hn := hp.2.1 (by omega)
  have hM : n * c ≤ 24 * most := by
    have : n * c ≤ most * d * c := Int.mul_le_mul_of_nonneg_right (by omega) (by omega)
    rw [Int.mul_assoc, e] at this
    omega
  have hM0 : 0 ≤ n * c := Int.mul_nonneg hp.1 (by omega)
  refine ⟨n * c, ⟨hM0, hM⟩, ?_⟩
  obtain ⟨z, _, _, _⟩ := mkF_small (n := n) (d := d) ⟨hp.1, by omega⟩ ⟨by omega, by omega⟩
  have hr := r24_ok (n := n * c) (by omega)
  refine qF_inj ho hr.1 ?_
  rw [mkF_q (by omega) z, hr.2.1, Rat.intCast_mul]
  have e' : (d : Rat) * (c : Rat) = 24 := by exact_mod_cast e
  have hd0 := cast_ne (show d ≠ 0 by omega)
  have hc0 := cast_ne (show c ≠ 0 by omega)
  rw [← e']
  grind
end Go.Proofs.YtkeckmdmmbeaiaaGreatDoor
namespace Go.Proofs.YtkeckmdmmbeaiaaGreatDoor
open Go.RowKit Sx
theorem divF_eq {a b x : Fr} (ha : okF a.1 a.2 = true) (hb : okF b.1 b.2 = true) (hx : okF x.1 x.2 = true) (h0 : 0 < b.1) (h : qF x * qF b = qF a) : divF a.1 a.2 b.1 b.2 = (x, 0) := by
  unfold divF
  rw [if_pos ⟨ha, hb⟩, if_neg (by omega)]
  refine mkF_of hx (Int.mul_pos (okF_den ha).2 h0) ?_
  have h1 := (okF_den ha).1
  have h2 := (okF_den hb).1
  have h3 := (okF_den hx).1
  have h4 := cast_ne (show b.1 ≠ 0 by omega)
  unfold qF at h
  have : (x.1 : Rat) * ((a.2 : Rat) * (b.1 : Rat)) = ((a.1 : Rat) * (b.2 : Rat)) * (x.2 : Rat) := by grind
  exact_mod_cast this
theorem freqGo_q {o : Fr} (ho : okF o.1 o.2 = true) : ∀ (n : Nat) (e : Int × Int), okF e.1 e.2 = true → (freqGo o.1 o.2 n e).2 = 0 → qF (freqGo o.1 o.2 n e).1 = qF e * pw (qF o) n
  | 0, e, _, _ => by show qF e = qF e * 1; grind
  | n + 1, e, he, h => by
    unfold freqGo at h ⊢
    split at h
    · rename_i hc
      rw [if_pos hc]
      have g := (mulF_ok he ho).resolve_right (by omega)
      rw [freqGo_q ho n _ g.2 h, mulF_q he ho hc]
      show _ = qF e * (pw (qF o) n * qF o)
      grind
    · simp at h
theorem freq_q {x : tTuning.den} (h : tuneF x = true) {k : Nat} (hc : (freqF x (k : Int)).2 = 0) : qF (freqF x (k : Int)).1 = qF x.1 * Rq x.2.2 x.2.1 k ∧ okF (freqF x (k : Int)).1.1 (freqF x (k : Int)).1.2 = true := by
  have ht := tune_iff.1 h
  obtain ⟨b, o, rs⟩ := x
  change List tFrac.den at rs
  obtain ⟨⟨hb, hb0⟩, hT⟩ := ht
  simp only at hb hb0 hT
  have ho := hT.oct.ok
  have e1 : ((k : Int) / ((rs.length : Nat) : Int)).toNat = k / rs.length := by rw [← Int.natCast_ediv, Int.toNat_natCast]
  have e2 : ((k : Int) % ((rs.length : Nat) : Int)).toNat = k % rs.length := by rw [← Int.natCast_emod, Int.toNat_natCast]
  unfold freqF at hc ⊢
  simp only [e1, e2] at hc ⊢
  split at hc
  · rename_i hg
    rw [if_pos hg]
    have k1 := freqGo_q ho (k / rs.length) b hb hg
    have k2 := freqGo_ok ho (k / rs.length) b hb
    have k3 := hT.ok (k % rs.length) (Nat.mod_lt _ hT.n1)
    refine ⟨?_, ((mulF_ok k2 k3).resolve_right (by omega)).2⟩
    rw [mulF_q k2 k3 hc, k1]
    show _ = qF b * (qF (atF rs (k % rs.length)) * pw (qF o) (k / rs.length))
    grind
  · simp at hc
theorem freq_lt {x : tTuning.den} (h : tuneF x = true) {i j : Nat} (hij : i < j) (h1 : (freqF x (i : Int)).2 = 0) (h2 : (freqF x (j : Int)).2 = 0) : cmpB (freqF x (i : Int)).1 (freqF x (j : Int)).1 < 0 := by
  have a := freq_q h h1
  have b := freq_q h h2
  have ht := tune_iff.1 h
  rw [qF_le (okF_den a.2).2 (okF_den b.2).2, a.1, b.1]
  have hm := Rq_mono ht.2 i (j - i) (by omega)
  rw [show i + (j - i) = j by omega] at hm
  have hb := (qF_pos ht.1.1).2 ht.1.2
  have := Rat.mul_lt_mul_of_pos_right hm hb
  grind
/-! ### the nearest key of a key's frequency -/
theorem spec_own {nf df cf : Int → Int} {key : Int} (hk : 0 ≤ key ∧ key ≤ 126) (hc : ∀ i, 0 ≤ i → i ≤ key → cf i = 0) (hm : ∀ i j, 0 ≤ i → i < j → j ≤ key → nf i * df j < nf j * df i) :
    ∀ (n : Nat) (k best ln ld : Int), (n : Int) + k = 128 → 0 ≤ k → k ≤ key → (k = 0 → best = 0) → (0 < k → ln = nf (k - 1) ∧ ld = df (k - 1)) → keySpec nf df cf (nf key) (df key) n k best ln ld = some key
  | 0, k, _, _, _, h1, _, h3, _, _ => by omega
  | n + 1, k, best, ln, ld, h1, h2, h3, h4, h5 => by
    have hcl : 0 < k → closerK ln ld (nf k) (df k) (nf key) (df key) := fun h0 => by
      obtain ⟨rfl, rfl⟩ := h5 h0
      refine ⟨hm (k - 1) key (by omega) (by omega) (by omega), .inl ?_⟩
      by_cases e : k = key
      · subst e; exact Int.le_refl _
      · exact Int.le_of_lt (hm k key h2 (by omega) (by omega))
    unfold keySpec
    rw [if_neg (by rw [hc k h2 h3]; simp)]
    by_cases e : k = key
    · subst e
      rw [if_pos (.inr (Int.le_refl _))]
      by_cases h0 : 0 < k
      · rw [if_pos ⟨h0, hcl h0⟩]
      · rw [if_neg (fun c => h0 c.1), h4 (by omega)]
        congr 1; omega
    · have hlt := hm k key h2 (by omega) (by omega)
      rw [if_neg (by rintro (c | c) <;> omega)]
      refine spec_own hk hc hm n (k + 1) _ _ _ (by omega) (by omega) (by omega) (fun _ => by omega) (fun _ => ?_)
      rw [Int.add_sub_cancel]
      exact ⟨rfl, rfl⟩
theorem near_own {x : tTuning.den} (h : tuneF x = true) {key : Nat} (hk : key ≤ 126) (hc : ∀ i : Nat, i ≤ key → (freqF x (i : Int)).2 = 0) : nearF x (freqF x (key : Int)).1.1 (freqF x (key : Int)).1.2 = ((key : Int), 0) := by
  have hq := freq_q h (hc key (Nat.le_refl _))
  have ht := tune_iff.1 h
  have hpos : ¬ (freqF x (key : Int)).1.1 < 0 := by
    have h1 := Rq_pos ht.2 key
    have hb := (qF_pos ht.1.1).2 ht.1.2
    have h2 := Rat.mul_pos hb h1
    rw [← hq.1, qF_pos hq.2] at h2
    omega
  unfold nearF
  rw [if_pos h, if_pos hq.2, if_neg hpos]
  have hs := spec_own (nf := nfK x) (df := dfK x) (cf := cfK x) (key := (key : Int)) ⟨by omega, by omega⟩ (fun i h0 h1 => by
      obtain ⟨m, rfl⟩ := Int.eq_ofNat_of_zero_le h0
      exact hc m (by omega)) (fun i j h0 h1 h2 => by
      obtain ⟨m, rfl⟩ := Int.eq_ofNat_of_zero_le h0
      obtain ⟨m', rfl⟩ := Int.eq_ofNat_of_zero_le (show 0 ≤ j by omega)
      have := freq_lt h (i := m) (j := m') (by omega) (hc m (by omega)) (hc m' (by omega))
      rw [cmpB_lt] at this
      exact this) 128 0 0 0 0 (by omega) (by omega) (by omega) (fun _ => rfl) (fun c => by omega)
  unfold nfK dfK cfK at *
  rw [hs]
  rfl
/-! ### the octave -/
theorem ratio_oct {x : tTuning.den} (h : tuneF x = true) {key : Nat} (hk : (key : Int) + ((x.2.2 : List tFrac.den).length : Int) ≤ 127) (hc : (ratioF x (key : Int) ((key : Int) + ((x.2.2 : List tFrac.den).length : Int))).2 = 0) : (ratioF x (key : Int) ((key : Int) + ((x.2.2 : List tFrac.den).length : Int))).1 = x.2.1 := by
  have ht := tune_iff.1 h
  have i1 : inB (key : Int) 0 127 = true := (inB_iff _ _ _).2 (by omega)
  have i2 : inB ((key : Int) + ((x.2.2 : List tFrac.den).length : Int)) 0 127 = true := (inB_iff _ _ _).2 (by omega)
  unfold ratioF fokF at hc ⊢
  simp only [h, i1, i2, if_true] at hc ⊢
  split at hc
  · rename_i hg
    rw [if_pos hg]
    have e : (key : Int) + ((x.2.2 : List tFrac.den).length : Int) = ((key + (x.2.2 : List tFrac.den).length : Nat) : Int) := by omega
    rw [e] at hc hg ⊢
    have a := freq_q h hg.1
    have b := freq_q h hg.2
    obtain ⟨g1, g2, g3⟩ := divF_q b.2 a.2 hc
    refine qF_inj g3 ht.2.oct.ok ?_
    rw [g2, a.1, b.1, Rq_next ht.2.n1]
    have p1 := Rq_pos ht.2 key
    have p2 := (qF_pos ht.1.1).2 ht.1.2
    have p3 := Rat.mul_pos p2 p1
    grind
  · simp at hc
/-! ### mirrored -/
def mirGo (o : Fr) (rs : List tFrac.den) : Nat → List Fr × Int
  | 0 => ([], 0)
  | i + 1 => if (divF o.1 o.2 (atF rs (i + 1)).1 (atF rs (i + 1)).2).2 = 0 then ((divF o.1 o.2 (atF rs (i + 1)).1 (atF rs (i + 1)).2).1 :: (mirGo o rs i).1, (mirGo o rs i).2) else ([], 2)
def mirF (x : tTuning.den) : tTuning.den × Int :=
  if tuneF x = true then (if (mirGo x.2.1 x.2.2 ((x.2.2 : List tFrac.den).length - 1)).2 = 0 then ((x.1, x.2.1, (1, 1) :: (mirGo x.2.1 x.2.2 ((x.2.2 : List tFrac.den).length - 1)).1), 0) else (((0, 0), (0, 0), []), 2)) else (((0, 0), (0, 0), []), 1)
theorem mirGo_len (o : Fr) (rs : List tFrac.den) : ∀ i, (mirGo o rs i).1.length ≤ i
  | 0 => Nat.le_refl _
  | i + 1 => by
    have := mirGo_len o rs i
    unfold mirGo
    split <;> simp <;> omega
theorem mirGo_all {o : Fr} {rs : List tFrac.den} : ∀ i, (mirGo o rs i).2 = 0 → (mirGo o rs i).1.length = i ∧ ∀ j, j < i → (divF o.1 o.2 (atF rs (i - j)).1 (atF rs (i - j)).2).2 = 0 ∧ atF (mirGo o rs i).1 j = (divF o.1 o.2 (atF rs (i - j)).1 (atF rs (i - j)).2).1
  | 0, _ => ⟨rfl, fun j h => by omega⟩
  | i + 1, h => by
    unfold mirGo at h ⊢
    split at h
    · rename_i hc
      rw [if_pos hc]
      obtain ⟨h1, h2⟩ := mirGo_all i h
      refine ⟨by simp [h1], fun j hj => ?_⟩
      cases j with
      | zero => exact ⟨hc, rfl⟩
      | succ j =>
        have := h2 j (by omega)
        rw [show i + 1 - (j + 1) = i - j by omega]
        exact this
    · simp at h
theorem mirGo_of {o : Fr} {us rs : List tFrac.den} {n : Nat} (hn : rs.length = n) (h : ∀ k, 1 ≤ k → k < n → divF o.1 o.2 (atF us k).1 (atF us k).2 = (atF rs (n - k), 0)) : ∀ i, i < n → mirGo o us i = (rs.drop (n - i), 0)
  | 0, _ => by rw [Nat.sub_zero, ← hn, List.drop_length]; rfl
  | i + 1, hi => by
    have hk := h (i + 1) (by omega) hi
    unfold mirGo
    rw [hk, if_pos rfl, mirGo_of hn h i (by omega)]
    have e : rs.drop (n - (i + 1)) = atF rs (n - (i + 1)) :: rs.drop (n - i) := by
      rw [List.drop_eq_getElem_cons (by omega), show n - (i + 1) + 1 = n - i by omega]
      unfold atF
      rw [getD_lt _ _ _ (by omega)]
    rw [e]
theorem div_pos_ok {o r : Fr} (ho : OctF o) (hr : PosF r) : (divF o.1 o.2 r.1 r.2).2 = 0 ∨ (divF o.1 o.2 r.1 r.2).2 = 2 ∧ (divF o.1 o.2 r.1 r.2).1 = (0, 0) := by
  unfold divF
  rw [if_pos ⟨ho.ok, hr.ok⟩, if_neg (by have := hr.pos; omega)]
  exact mkF_code _ _ (fun e => by have := hr.pos; have := okF_bd ho.ok; rcases Int.mul_eq_zero.1 e with e | e <;> omega)
theorem mir_tun {rs : List tFrac.den} {o : Fr} (h : Tun rs o) (hc : (mirGo o rs (rs.length - 1)).2 = 0) : Tun ((1, 1) :: (mirGo o rs (rs.length - 1)).1) o ∧ mirGo o ((1, 1) :: (mirGo o rs (rs.length - 1)).1) (rs.length - 1) = (rs.drop 1, 0) ∧ (mirGo o rs (rs.length - 1)).1.length = rs.length - 1 := by
  obtain ⟨hl, ha⟩ := mirGo_all _ hc
  have n1 := h.n1
  have n24 := h.n24
  generalize hM : (mirGo o rs (rs.length - 1)).1 = M at *
  have hat : ∀ k, atF ((1, 1) :: M) (k + 1) = atF M k := fun k => rfl
  have hq : ∀ k, 1 ≤ k → k < rs.length → okF (atF ((1, 1) :: M) k).1 (atF ((1, 1) :: M) k).2 = true ∧ qF (atF ((1, 1) :: M) k) = qF o / qF (atF rs (rs.length - k)) := fun k h1 h2 => by
    obtain ⟨j, rfl⟩ : ∃ j, k = j + 1 := ⟨k - 1, by omega⟩
    obtain ⟨g1, g2⟩ := ha j (by omega)
    rw [show rs.length - 1 - j = rs.length - (j + 1) by omega] at g1 g2
    obtain ⟨_, d2, d3⟩ := divF_q h.oct.ok (h.ok (rs.length - (j + 1)) (by omega)) g1
    rw [hat, g2]
    exact ⟨d3, d2⟩
  have hpos : ∀ i, i < rs.length → 0 < qF (atF rs i) := fun i hi => (qF_pos (h.ok i hi)).2 (tun_pos h i hi).pos
  have ho : 1 < qF o := h.oct.q
  have hgt : ∀ i, 1 ≤ i → i < rs.length → 1 < qF (atF rs i) := fun i h1 h2 => by
    have := Rq_mono (o := o) h 0 i (by omega)
    rw [Nat.zero_add, Rq_lo 0 h.n1, Rq_lo i h2, h.first, qF_one] at this
    exact this
  have hdiv : ∀ a b c : Rat, 0 < a → 0 < b → c < a * b → c / b < a := fun a b c ha hb hc => by
    have hb' : b ≠ 0 := by grind
    have e : c / b * b = c := by grind
    refine Rat.lt_of_mul_lt_mul_right (c := b) ?_ (Rat.le_of_lt hb)
    rw [e]; exact hc
  have hdiv2 : ∀ a b c : Rat, 0 < b → a * b < c → a < c / b := fun a b c hb hc => by
    have hb' : b ≠ 0 := by grind
    have e : c / b * b = c := by grind
    refine Rat.lt_of_mul_lt_mul_right (c := b) ?_ (Rat.le_of_lt hb)
    rw [e]; exact hc
  refine ⟨⟨h.oct, by simp, by simp only [List.length_cons]; omega, rfl, fun i hi => ?_, fun i hi => ?_, fun i hi => ?_⟩, ?_, hl⟩
  · rw [List.length_cons] at hi
    rcases Nat.eq_zero_or_pos i with h0 | h0
    · subst h0; show okF 1 1 = true; decide
    · exact (hq i h0 (by omega)).1
  · rw [List.length_cons] at hi
    rcases Nat.eq_zero_or_pos i with h0 | h0
    · subst h0; show qF (1, 1) < _; rw [qF_one]; exact ho
    · rw [(hq i h0 (by omega)).2]
      have g := hgt (rs.length - i) (by omega) (by omega)
      refine hdiv _ _ _ (by grind) (by grind) ?_
      have := Rat.mul_lt_mul_of_pos_right g (show 0 < qF o by grind)
      grind
  · rw [List.length_cons] at hi
    rcases Nat.eq_zero_or_pos i with h0 | h0
    · subst h0
      rw [(hq 1 (by omega) (by omega)).2]
      show qF (1, 1) < _
      rw [qF_one]
      refine hdiv2 _ _ _ (hpos _ (by omega)) ?_
      have := h.lt (rs.length - 1) (by omega)
      grind
    · rw [(hq i h0 (by omega)).2, (hq (i + 1) (by omega) (by omega)).2]
      have g := h.inc (rs.length - (i + 1)) (by omega)
      rw [show rs.length - (i + 1) + 1 = rs.length - i by omega] at g
      have p1 := hpos (rs.length - i) (by omega)
      have p2 := hpos (rs.length - (i + 1)) (by omega)
      generalize qF (atF rs (rs.length - i)) = x at *
      generalize qF (atF rs (rs.length - (i + 1))) = y at *
      generalize qF o = z at *
      have p3 : y * x ≠ 0 := by have := Rat.mul_pos p2 p1; grind
      have hx : x ≠ 0 := by grind
      have hy : y ≠ 0 := by grind
      refine hdiv2 _ _ _ p2 ?_
      have e : z / x * y = z * y / x := by grind
      rw [e]
      refine hdiv _ _ _ (by grind) p1 ?_
      have := Rat.mul_lt_mul_of_pos_right g (show 0 < z by grind)
      grind
  · have hmo := mirGo_of (o := o) (us := (1, 1) :: M) (rs := rs) (n := rs.length) rfl (fun k h1 h2 => by
      have a := hq k h1 h2
      have p := hpos (rs.length - k) (by omega)
      have hpk : 0 < qF (atF ((1, 1) :: M) k) := by
        rw [a.2]
        refine hdiv2 _ _ _ p ?_
        grind
      refine divF_eq h.oct.ok a.1 (h.ok _ (by omega)) ((qF_pos a.1).1 hpk) ?_
      rw [a.2]
      grind) (rs.length - 1) (by omega)
    rw [show rs.length - (rs.length - 1) = 1 by omega] at hmo
    exact hmo
theorem mir_mir {x : tTuning.den} (h : tuneF x = true) (hc : (mirF x).2 = 0) : tuneF (mirF x).1 = true ∧ mirF (mirF x).1 = (x, 0) := by
  have ht := tune_iff.1 h
  obtain ⟨b, o, rs⟩ := x
  change List tFrac.den at rs
  obtain ⟨hb, hT⟩ := ht
  simp only at hb hT
  have n1 := hT.n1
  unfold mirF at hc
  rw [if_pos h] at hc
  have e0 : mirF (b, o, rs) = if (mirGo o rs (rs.length - 1)).2 = 0 then ((b, o, (1, 1) :: (mirGo o rs (rs.length - 1)).1), 0) else (((0, 0), (0, 0), []), 2) := by
    unfold mirF; rw [if_pos h]
  simp only at hc
  by_cases hg : (mirGo o rs (rs.length - 1)).2 = 0
  · rw [if_pos hg] at e0
    rw [e0]
    obtain ⟨m1, m2, m3⟩ := mir_tun hT hg
    have ht2 : tuneF (b, o, (1, 1) :: (mirGo o rs (rs.length - 1)).1) = true := tune_iff.2 ⟨hb, m1⟩
    refine ⟨ht2, ?_⟩
    unfold mirF
    rw [if_pos ht2]
    simp only [List.length_cons, m3, show rs.length - 1 + 1 - 1 = rs.length - 1 by omega, m2, if_true]
    have e : rs = (1, 1) :: rs.drop 1 := by
      have hf := hT.first
      unfold atF at hf
      rw [getD_lt _ _ _ (by omega)] at hf
      rw [← hf]
      match rs, n1 with
      | a :: r, _ => rfl
    rw [← e]
  · rw [if_neg hg] at hc; simp at hc
end Go.Proofs.YtkeckmdmmbeaiaaGreatDoor
namespace Go.Proofs.YtkeckmdmmbeaiaaGreatDoor
open Go.RowKit Sx
set_option maxRecDepth 100000
set_option maxHeartbeats 1000000
def C_TuB : FuncId → Option Ct := addC 25 ct_iNearestKey (addC 48 ct_iReadFrac (addC 46 ct_SplitWords (addC 31 ct_iTuningText (addC 21 ct_A2Tuning (addC 12 ct_a2Long (addC 22 ct_a2At C_Rd))))))
theorem C_TuB_ok : COk Tryz.prog C_TuB := addC_ok (addC_ok (addC_ok (addC_ok (addC_ok (addC_ok (addC_ok C_Rd_ok sat_a2At) sat_a2Long) sat_A2Tuning) sat_iTuningText) sat_SplitWords) sat_iReadFrac) sat_iNearestKey
def ann_sSameTuning_0 : LAnn := { sameS := [2, 3], modS := [4, 5], sameH := [2, 3], modH := [], base := 900000, nilE := [], nilB := [], G := fun
  | ⟨[.ptr 2 0, .ptr 3 0], [.box [.int .i64 x1, .int .i64 x2, .int .i64 x3, .int .i64 x4, .view (.pair (.int .i64) (.int .i64)) xs], .box [.int .i64 y1, .int .i64 y2, .int .i64 y3, .int .i64 y4, .view (.pair (.int .i64) (.int .i64)) ys]], [.bool r, .int .i64 i], []⟩ => some (.p ((0 ≤ i ∧ i ≤ (xs.length : Int)) ∧ xs.length = ys.length ∧ (xs.length : Int) ≤ 9223372036854775807), .ite (decide (xs.drop i.toNat = ys.drop i.toNat)) (.leaf (.exit 0) [.bool r, .int .i64 (xs.length : Int)] []) (.leaf .ret [.bool false, .unk] []))
  | _ => none }
def ct_sSameTuning : Ct := ctOf [.s tTuning, .s tTuning] (fun ((x : tTuning.den), (y : tTuning.den), _) => .p (((x.2.2 : List tFrac.den).length : Int) ≤ 9223372036854775807)) (fun ((x : tTuning.den), (y : tTuning.den), _) => .bool (decide ((x.1.1 = y.1.1 ∧ x.1.2 = y.1.2) ∧ (x.2.1.1 = y.2.1.1 ∧ x.2.1.2 = y.2.1.2) ∧ (x.2.2 : List tFrac.den) = y.2.2)))
set_option maxHeartbeats 1000000 in
theorem loop_sSameTuning_0 : LoopSat Tryz.prog Tryz.f28.ntmps (loopAt Tryz.f28 0) ann_sSameTuning_0 := by
  refine loopSat_of (C := C_TuB) (L := (addL (firstId (loopAt Tryz.f28 0)) ann_sSameTuning_0 noL)) (wr := false) mixedOk C_TuB_ok (loopsIn0 (by kernel_rfl)) (fun d => match d.blk, d.vals with | [.box [_, _, _, _, .view _ xs], _], [_, .int _ i] => ((xs.length : Int) - i).toNat | _, _ => 0) fun d p t hG hp => ?_
  simp only [ann_sSameTuning_0] at hG
  split at hG
  rotate_left
  · simp at hG
  rename_i x1 x2 x3 x4 xs y1 y2 y3 y4 ys r i
  simp only [Option.some.injEq, Prod.mk.injEq] at hG
  obtain ⟨rfl, rfl⟩ := hG
  have htree : exRound Tryz.prog C_TuB false (addL (firstId (loopAt Tryz.f28 0)) ann_sSameTuning_0 noL) Tryz.f28.ntmps ann_sSameTuning_0 (loopAt Tryz.f28 0) ⟨[.ptr 2 0, .ptr 3 0], [.box [.int .i64 x1, .int .i64 x2, .int .i64 x3, .int .i64 x4, .view tFrac xs], .box [.int .i64 y1, .int .i64 y2, .int .i64 y3, .int .i64 y4, .view tFrac ys]], [.bool r, .int .i64 i], []⟩ = .ite (decide (i < (↑xs.length : Int))) (.need ((0 : Int) ≤ i ∧ i < (↑xs.length : Int)) (.need ((0 : Int) ≤ i ∧ i < (↑ys.length : Int)) (.ite (!((getT tFrac xs i).fst == (getT tFrac ys i).fst && (getT tFrac xs i).snd == (getT tFrac ys i).snd)) (.leaf (.ret, ⟨[.ptr 2 0, .ptr 3 0], [.box [.int .i64 (x1), .int .i64 (x2), .int .i64 (x3), .int .i64 (x4), .view (I64.pair I64) (xs)], .box [.int .i64 (y1), .int .i64 (y2), .int .i64 (y3), .int .i64 (y4), .view (I64.pair I64) (ys)]], [.bool (false), .int .i64 (i)], []⟩)) (.need (inK IntKind.i64 (i + (1 : Int))) (.leaf (.normal, ⟨[.ptr 2 0, .ptr 3 0], [.box [.int .i64 (x1), .int .i64 (x2), .int .i64 (x3), .int .i64 (x4), .view (I64.pair I64) (xs)], .box [.int .i64 (y1), .int .i64 (y2), .int .i64 (y3), .int .i64 (y4), .view (I64.pair I64) (ys)]], [.bool (r), .int .i64 (i + (1 : Int))], []⟩)))))) (.leaf ((.exit 0), ⟨[.ptr 2 0, .ptr 3 0], [.box [.int .i64 (x1), .int .i64 (x2), .int .i64 (x3), .int .i64 (x4), .view (I64.pair I64) (xs)], .box [.int .i64 (y1), .int .i64 (y2), .int .i64 (y3), .int .i64 (y4), .view (I64.pair I64) (ys)]], [.bool (r), .int .i64 (i)], []⟩)) := by kernel_rfl
  rw [htree]
  clear htree
  replace hp : (0 ≤ i ∧ i ≤ (xs.length : Int)) ∧ xs.length = ys.length ∧ (xs.length : Int) ≤ 9223372036854775807 := hp
  simp only [Tree.ok, tyd_inj, packAV, AV.same, AV.same.sameL, encV, encS, enc, inK, Nd.ok, List.headD_cons, List.cons_append, List.nil_append, List.append_nil, true_and, and_true, Bool.true_and, Bool.and_true, loop_next, weakBs_nil, weakBs_cons, weakB_self, weakB_row, weakB_int, weakL_nil, weakL_unk, weakL_guess, isRow_own, isRow_unk, weakL_int, weakL_bool, weakL_str, weakL_own, weakL_view, weakL_nilS, noRow_int, noRow_bool, own_inj, LTree.val, cond_true, cond_false, Prod.mk.injEq, List.cons.injEq, AV.int.injEq, AV.bool.injEq, AV.str.injEq, AV.agg.injEq, ann_sSameTuning_0, decide_eq_true_eq, decide_eq_false_iff_not, bne_iff_ne, ne_eq, bne_eq_false_iff_eq, getT]
  refine ⟨fun ha => ?_, fun ha => ?_⟩
  · have h1 := drop_eq_iff xs ys i.toNat tFrac.zero (by omega) (by omega)
    simp only [Prod.ext_iff] at h1
    rw [show (i + 1).toNat = i.toNat + 1 by omega]
    repeat' first | apply And.intro | intro _
    all_goals first
      | omega
      | (rw [decide_eq_false (show ¬ (xs.drop i.toNat = ys.drop i.toNat) by grind)]; simp [Tree.ok, tyd_inj, packAV, AV.same, AV.same.sameL, encV, encS, enc, inK, Nd.ok, List.headD_cons, List.cons_append, List.nil_append, List.append_nil, true_and, and_true, Bool.true_and, Bool.and_true, loop_next, weakBs_nil, weakBs_cons, weakB_self, weakB_row, weakB_int, weakL_nil, weakL_unk, weakL_guess, isRow_own, isRow_unk, weakL_int, weakL_bool, weakL_str, weakL_own, weakL_view, weakL_nilS, noRow_int, noRow_bool, own_inj, LTree.val, cond_true, cond_false, Prod.mk.injEq, List.cons.injEq, AV.int.injEq, AV.bool.injEq, AV.str.injEq, AV.agg.injEq]; done)
      | rw [show decide (xs.drop i.toNat = ys.drop i.toNat) = decide (xs.drop (i.toNat + 1) = ys.drop (i.toNat + 1)) by grind]
  · have h1 : i.toNat = xs.length := by omega
    have h2 : xs.length = ys.length := by omega
    rw [h1, decide_eq_true (show xs.drop xs.length = ys.drop xs.length by rw [List.drop_length, h2, List.drop_length])]
    simp [Tree.ok, tyd_inj, packAV, AV.same, AV.same.sameL, encV, encS, enc, inK, Nd.ok, List.headD_cons, List.cons_append, List.nil_append, List.append_nil, true_and, and_true, Bool.true_and, Bool.and_true, loop_next, weakBs_nil, weakBs_cons, weakB_self, weakB_row, weakB_int, weakL_nil, weakL_unk, weakL_guess, isRow_own, isRow_unk, weakL_int, weakL_bool, weakL_str, weakL_own, weakL_view, weakL_nilS, noRow_int, noRow_bool, own_inj, LTree.val, cond_true, cond_false, Prod.mk.injEq, List.cons.injEq, AV.int.injEq, AV.bool.injEq, AV.str.injEq, AV.agg.injEq]
    omega
theorem loops_sSameTuning : ∀ c, Tryz.f28.body = some c → LoopsOk Tryz.prog (addL (firstId (loopAt Tryz.f28 0)) ann_sSameTuning_0 noL) Tryz.f28.ntmps c := loopsN fun i hi ann h => by
  have hn : loopN Tryz.f28 = 1 := by kernel_rfl
  rw [hn] at hi
  exact match i, hi, h with
    | 0, _, h => (Option.some.inj ((show (addL (firstId (loopAt Tryz.f28 0)) ann_sSameTuning_0 noL) (firstId (loopAt Tryz.f28 0)) = some ann_sSameTuning_0 from by kernel_rfl).symm.trans h)) ▸ loop_sSameTuning_0
set_option maxHeartbeats 1000000 in
theorem sat_sSameTuning : Sat Tryz.prog 28 ct_sSameTuning := by
  refine sat_typed (C := C_TuB) (L := (addL (firstId (loopAt Tryz.f28 0)) ann_sSameTuning_0 noL)) (wr := false) mixedOk Tryz.func28 C_TuB_ok (loops_sSameTuning) (fun _ => by first | rfl | (simp [ownsOf, ownsOf.ownsL, enc, encV, encS])) fun x hp => ?_
  obtain ⟨(x : tTuning.den), (y : tTuning.den), _⟩ := x
  replace hp : ((x.2.2 : List tFrac.den).length : Int) ≤ 9223372036854775807 := hp
  have htree : exFunc Tryz.prog C_TuB false (addL (firstId (loopAt Tryz.f28 0)) ann_sSameTuning_0 noL) Tryz.f28 (encA [.s tTuning, .s tTuning] (x, y, ())) = .ite (!(x.fst.fst == y.fst.fst && x.fst.snd == y.fst.snd)) (.leaf [.lit false]) (.ite (!(x.snd.fst.fst == y.snd.fst.fst && x.snd.fst.snd == y.snd.fst.snd)) (.leaf [.lit false]) (.ite ((↑(List.length x.snd.snd) : Int) != (↑(List.length y.snd.snd) : Int)) (.leaf [.lit false]) (.need (((0 : Int) ≤ (0 : Int) ∧ (0 : Int) ≤ (↑(List.length x.snd.snd) : Int)) ∧ List.length x.snd.snd = List.length y.snd.snd ∧ (↑(List.length x.snd.snd) : Int) ≤ (9223372036854775807 : Int)) (.ite (decide (List.drop (Int.toNat (0 : Int)) x.snd.snd = List.drop (Int.toNat (0 : Int)) y.snd.snd)) (.leaf [.lit true]) (.leaf [.bool (false)]))))) := by kernel_rfl
  refine (congrArg (Tree.ok _) htree).mpr ?_
  clear htree
  obtain ⟨⟨x1, x2⟩, ⟨x3, x4⟩, xs⟩ := x
  obtain ⟨⟨y1, y2⟩, ⟨y3, y4⟩, ys⟩ := y
  simp only [Tree.ok, tyd_inj, packAV, AV.same, AV.same.sameL, encV, encS, enc, inK, Nd.ok, List.headD_cons, List.cons_append, List.nil_append, List.append_nil, true_and, and_true, Bool.true_and, Bool.and_true, Int.toNat_zero, List.drop_zero, decide_eq_true_eq, decide_eq_false_iff_not, bne_iff_ne, ne_eq, bne_eq_false_iff_eq]
  repeat' first | apply And.intro | intro _
  all_goals first | omega | assumption | grind
def C_Tu_1 : FuncId → Option Ct := addC 28 ct_sSameTuning C_TuB
theorem C_Tu_1_ok : COk Tryz.prog C_Tu_1 := addC_ok C_TuB_ok sat_sSameTuning
def ct_sValidTuning : Ct := ctOf [.s tTuning] (fun ((x : tTuning.den), _) => .p (((x.2.2 : List tFrac.den).length : Int) ≤ 9223372036854775807)) (fun ((x : tTuning.den), _) => .bool (tuneF x))
set_option maxHeartbeats 1000000 in
theorem sat_sValidTuning : Sat Tryz.prog 29 ct_sValidTuning := by
  refine sat_typed (C := C_Tu_1) (L := noL) (wr := false) mixedOk Tryz.func29 C_Tu_1_ok (loops0 (by kernel_rfl)) (fun _ => by first | rfl | (simp [ownsOf, ownsOf.ownsL, enc, encV, encS])) fun x hp => ?_
  obtain ⟨(x : tTuning.den), _⟩ := x
  replace hp : ((x.2.2 : List tFrac.den).length : Int) ≤ 9223372036854775807 := hp
  have htree : exFunc Tryz.prog C_Tu_1 false noL Tryz.f29 (encA [.s tTuning] (x, ())) = .need ((↑(List.length x.snd.snd) : Int) ≤ (9223372036854775807 : Int)) (.leaf [.bool (tuneF x)]) := by kernel_rfl
  refine (congrArg (Tree.ok _) htree).mpr ?_
  clear htree
  simp only [Tree.ok, tyd_inj, packAV, AV.same, AV.same.sameL, encV, encS, enc, inK, Nd.ok, List.headD_cons, List.cons_append, List.nil_append, List.append_nil, true_and, and_true, Bool.true_and, Bool.and_true]
  repeat' first | apply And.intro | intro _
  all_goals first | omega | assumption | trivial | rfl
def C_Tu_2 : FuncId → Option Ct := addC 29 ct_sValidTuning C_Tu_1
theorem C_Tu_2_ok : COk Tryz.prog C_Tu_2 := addC_ok C_Tu_1_ok sat_sValidTuning
def ct_sCompareFracS : Ct := ctOf [.s tFrac, .s tFrac] (fun _ => .tt) (fun (((a : Int), (b : Int)), ((c : Int), (d : Int)), _) => .int .i64 (if okF a b = true ∧ okF c d = true then cmpF a b c d else 0))
set_option maxHeartbeats 1000000 in
theorem sat_sCompareFracS : Sat Tryz.prog 17 ct_sCompareFracS := by
  refine sat_typed (C := C_Tu_2) (L := noL) (wr := false) mixedOk Tryz.func17 C_Tu_2_ok (loops0 (by kernel_rfl)) (fun _ => by first | rfl | (simp [ownsOf, ownsOf.ownsL, enc, encV, encS])) fun x hp => ?_
  obtain ⟨⟨(a : Int), (b : Int)⟩, ⟨(c : Int), (d : Int)⟩, _⟩ := x
  clear hp
  have htree : exFunc Tryz.prog C_Tu_2 false noL Tryz.f17 (encA [.s tFrac, .s tFrac] ((a, b), (c, d), ())) = .ite (!okF a b) (.leaf [.int .i64 ((0 : Int))]) (.ite (!okF c d) (.leaf [.int .i64 ((0 : Int))]) (.need ((((1 : Int) ≤ b ∧ b ≤ (1000000 : Int)) ∧ (-1000000000 : Int) ≤ a ∧ a ≤ (1000000000 : Int)) ∧ ((1 : Int) ≤ d ∧ d ≤ (1000000 : Int)) ∧ (-1000000000 : Int) ≤ c ∧ c ≤ (1000000000 : Int)) (.leaf [.int .i64 (cmpF a b c d)]))) := by kernel_rfl
  refine (congrArg (Tree.ok _) htree).mpr ?_
  clear htree
  have h1 := @okF_bd a b
  have h2 := @okF_bd c d
  simp only [Tree.ok, tyd_inj, packAV, AV.same, AV.same.sameL, encV, encS, enc, inK, Nd.ok, List.headD_cons, List.cons_append, List.nil_append, List.append_nil, true_and, and_true, Bool.true_and, Bool.and_true]
  repeat' first | apply And.intro | intro _
  all_goals first | omega | (simp_all; done) | (simp_all; omega) | grind
def C_Tu_3 : FuncId → Option Ct := addC 17 ct_sCompareFracS C_Tu_2
theorem C_Tu_3_ok : COk Tryz.prog C_Tu_3 := addC_ok C_Tu_2_ok sat_sCompareFracS
def ct_sFrequencyOfKey : Ct := ctOf [.s tTuning, .v (.int .i64)] (fun ((x : tTuning.den), (key : Int), _) => .p (((x.2.2 : List tFrac.den).length : Int) ≤ 9223372036854775807)) (fun ((x : tTuning.den), (key : Int), _) => .tup [.agg (enc tFrac (fokF x key).1), .int .i64 (fokF x key).2])
set_option maxHeartbeats 1000000 in
theorem sat_sFrequencyOfKey : Sat Tryz.prog 24 ct_sFrequencyOfKey := by
  refine sat_typed (C := C_Tu_3) (L := noL) (wr := false) mixedOk Tryz.func24 C_Tu_3_ok (loops0 (by kernel_rfl)) (fun _ => by first | rfl | (simp [ownsOf, ownsOf.ownsL, enc, encV, encS])) fun x hp => ?_
  obtain ⟨(x : tTuning.den), (key : Int), _⟩ := x
  replace hp : ((x.2.2 : List tFrac.den).length : Int) ≤ 9223372036854775807 := hp
  have htree : exFunc Tryz.prog C_Tu_3 false noL Tryz.f24 (encA [.s tTuning, .v (.int .i64)] (x, key, ())) = .need ((↑(List.length x.snd.snd) : Int) ≤ (9223372036854775807 : Int)) (.ite (!tuneF x) (.leaf [.agg [.int .i64 ((0 : Int)), .int .i64 ((0 : Int))], .int .i64 ((1 : Int))]) (.ite (!inB key (0 : Int) (127 : Int)) (.leaf [.agg [.int .i64 ((0 : Int)), .int .i64 ((0 : Int))], .int .i64 ((2 : Int))]) (.need (tuneF x = true ∧ (0 : Int) ≤ key ∧ key ≤ (127 : Int)) (.leaf [.agg [.int .i64 ((freqF x key).fst.fst), .int .i64 ((freqF x key).fst.snd)], .int .i64 ((freqF x key).snd)])))) := by kernel_rfl
  refine (congrArg (Tree.ok _) htree).mpr ?_
  clear htree
  simp only [Tree.ok, tyd_inj, packAV, AV.same, AV.same.sameL, encV, encS, enc, inK, Nd.ok, List.headD_cons, List.cons_append, List.nil_append, List.append_nil, true_and, and_true, Bool.true_and, Bool.and_true, fokF]
  repeat' first | apply And.intro | intro _
  all_goals first | omega | grind [inB]
def C_Tu_4 : FuncId → Option Ct := addC 24 ct_sFrequencyOfKey C_Tu_3
theorem C_Tu_4_ok : COk Tryz.prog C_Tu_4 := addC_ok C_Tu_3_ok sat_sFrequencyOfKey
def ann_iMirror_0 : LAnn := { sameS := [1, 2, 4], modS := [3, 5], sameH := [1], modH := [2, 4], base := 900000, nilE := [], nilB := [], G := fun
  | ⟨[.ptr 1 0, .ptr 2 0, .ptr 4 0], [.box [.int .i64 b1, .int .i64 b2, .int .i64 o1, .int .i64 o2, .view (.pair (.int .i64) (.int .i64)) rs]], [.int .i64 c, .int .i64 i], [[.int .i64 z1, .int .i64 z2, .int .i64 z3, .int .i64 z4, .nilS], [.int .i64 c1, .int .i64 c2, .int .i64 p1, .int .i64 p2, .own (.pair (.int .i64) (.int .i64)) out]]⟩ => some (.p (tuneF ((b1, b2), (o1, o2), rs) = true ∧ (0 ≤ i ∧ i ≤ (rs.length : Int) - 1) ∧ (out.length : Int) = (rs.length : Int) - i), .ite (decide ((mirGo (o1, o2) rs i.toNat).2 = 0)) (.leaf (.exit 0) [.int .i64 c, .unk] [[.int .i64 z1, .int .i64 z2, .int .i64 z3, .int .i64 z4, .nilS], [.int .i64 c1, .int .i64 c2, .int .i64 p1, .int .i64 p2, .own tFrac (out ++ (mirGo (o1, o2) rs i.toNat).1)]]) (.leaf .ret [.int .i64 2, .unk] [[.int .i64 0, .int .i64 0, .int .i64 0, .int .i64 0, .nilS], [.unk, .unk, .unk, .unk, .own tFrac (out ++ (mirGo (o1, o2) rs i.toNat).1)]]))
  | _ => none }
def ct_iMirror : Ct := ctOf [.s tTuning] (fun ((x : tTuning.den), _) => .p (((x.2.2 : List tFrac.den).length : Int) ≤ 9223372036854775807)) (fun ((x : tTuning.den), _) => .tup [.agg [.int .i64 (mirF x).1.1.1, .int .i64 (mirF x).1.1.2, .int .i64 (mirF x).1.2.1.1, .int .i64 (mirF x).1.2.1.2, .own tFrac (mirF x).1.2.2], .int .i64 (mirF x).2])
set_option maxHeartbeats 1000000 in
theorem loop_iMirror_0 : LoopSat Tryz.prog Tryz.f27.ntmps (loopAt Tryz.f27 0) ann_iMirror_0 := by
  refine loopSat_of (C := C_Tu_4) (L := (addL (firstId (loopAt Tryz.f27 0)) ann_iMirror_0 noL)) (wr := false) mixedOk C_Tu_4_ok (loopsIn0 (by kernel_rfl)) (fun d => match d.vals with | [_, .int _ i] => i.toNat | _ => 0) fun d p t hG hp => ?_
  simp only [ann_iMirror_0] at hG
  split at hG
  rotate_left
  · simp at hG
  rename_i b1 b2 o1 o2 rs c i z1 z2 z3 z4 c1 c2 p1 p2 out
  simp only [Option.some.injEq, Prod.mk.injEq] at hG
  obtain ⟨rfl, rfl⟩ := hG
  have htree : exRound Tryz.prog C_Tu_4 false (addL (firstId (loopAt Tryz.f27 0)) ann_iMirror_0 noL) Tryz.f27.ntmps ann_iMirror_0 (loopAt Tryz.f27 0) ⟨[.ptr 1 0, .ptr 2 0, .ptr 4 0], [.box [.int .i64 b1, .int .i64 b2, .int .i64 o1, .int .i64 o2, .view tFrac rs]], [.int .i64 c, .int .i64 i], [[.int .i64 z1, .int .i64 z2, .int .i64 z3, .int .i64 z4, .nilS], [.int .i64 c1, .int .i64 c2, .int .i64 p1, .int .i64 p2, .own tFrac out]]⟩ = .ite (decide ((0 : Int) < i)) (.need ((0 : Int) ≤ i ∧ i < (↑rs.length : Int)) (.ite ((divF o1 o2 (getT tFrac rs i).fst (getT tFrac rs i).snd).snd != (0 : Int)) (.leaf (.ret, ⟨[.ptr 1 0, .ptr 2 0, .ptr 4 0], [.box [.int .i64 (b1), .int .i64 (b2), .int .i64 (o1), .int .i64 (o2), .view (I64.pair I64) (rs)]], [.int .i64 ((divF o1 o2 (getT tFrac rs i).fst (getT tFrac rs i).snd).snd), .int .i64 (i)], [[.int .i64 ((0 : Int)), .int .i64 ((0 : Int)), .int .i64 ((0 : Int)), .int .i64 ((0 : Int)), .nilS], [.int .i64 (c1), .int .i64 (c2), .int .i64 (p1), .int .i64 (p2), .own (I64.pair I64) (out)]]⟩)) (.need (out.length + [(divF o1 o2 (getT tFrac rs i).fst (getT tFrac rs i).snd).fst].length ≤ (16777216 : Nat)) (.need (inK IntKind.i64 (i - (1 : Int))) (.leaf (.normal, ⟨[.ptr 1 0, .ptr 2 0, .ptr 4 0], [.box [.int .i64 (b1), .int .i64 (b2), .int .i64 (o1), .int .i64 (o2), .view (I64.pair I64) (rs)]], [.int .i64 (c), .int .i64 (i - (1 : Int))], [[.int .i64 (z1), .int .i64 (z2), .int .i64 (z3), .int .i64 (z4), .nilS], [.int .i64 (c1), .int .i64 (c2), .int .i64 (p1), .int .i64 (p2), .own (I64.pair I64) (out ++ [(divF o1 o2 (getT tFrac rs i).fst (getT tFrac rs i).snd).fst])]]⟩)))))) (.leaf ((.exit 0), ⟨[.ptr 1 0, .ptr 2 0, .ptr 4 0], [.box [.int .i64 (b1), .int .i64 (b2), .int .i64 (o1), .int .i64 (o2), .view (I64.pair I64) (rs)]], [.int .i64 (c), .int .i64 (i)], [[.int .i64 (z1), .int .i64 (z2), .int .i64 (z3), .int .i64 (z4), .nilS], [.int .i64 (c1), .int .i64 (c2), .int .i64 (p1), .int .i64 (p2), .own (I64.pair I64) (out)]]⟩)) := by kernel_rfl
  rw [htree]
  clear htree
  replace hp : tuneF ((b1, b2), (o1, o2), rs) = true ∧ (0 ≤ i ∧ i ≤ (rs.length : Int) - 1) ∧ (out.length : Int) = (rs.length : Int) - i := hp
  have hz : ∀ (k : Int), getT tFrac rs k = atF rs k.toNat := fun _ => rfl
  obtain ⟨ht, hi, ho⟩ := hp
  have hb : okF b1 b2 = true ∧ okF o1 o2 = true ∧ 1 ≤ rs.length ∧ rs.length ≤ 24 := tune_bd ht
  have hT := (tune_iff.1 ht).2
  simp only at hT
  simp only [Tree.ok, tyd_inj, packAV, AV.same, AV.same.sameL, encV, encS, enc, inK, Nd.ok, List.headD_cons, List.cons_append, List.nil_append, List.append_nil, true_and, and_true, Bool.true_and, Bool.and_true, loop_next, weakBs_nil, weakBs_cons, weakB_self, weakB_row, weakB_int, weakL_nil, weakL_unk, weakL_guess, isRow_own, isRow_unk, weakL_int, weakL_bool, weakL_str, weakL_own, weakL_view, weakL_nilS, noRow_int, noRow_bool, own_inj, LTree.val, cond_true, cond_false, Prod.mk.injEq, List.cons.injEq, AV.int.injEq, AV.bool.injEq, AV.str.injEq, AV.agg.injEq, ann_iMirror_0, decide_eq_true_eq, decide_eq_false_iff_not, bne_iff_ne, ne_eq, bne_eq_false_iff_eq, beq_iff_eq, beq_eq_false_iff_ne, hz]
  refine ⟨fun ha => ?_, fun ha => ?_⟩
  · obtain ⟨m, hm⟩ : ∃ m, i.toNat = m + 1 := ⟨i.toNat - 1, by omega⟩
    have hd := div_pos_ok hT.oct (tun_pos hT (m + 1) (by omega))
    rw [hm, show (i - 1).toNat = m by omega, mirGo]
    simp only at hd ⊢
    generalize divF o1 o2 (atF rs (m + 1)).1 (atF rs (m + 1)).2 = q at *
    obtain ⟨⟨q1, q2⟩, q3⟩ := q
    generalize mirGo (o1, o2) rs m = G at *
    simp only at hd ⊢
    simp only [List.length_append, List.length_cons, List.length_nil, List.append_assoc, List.singleton_append]
    by_cases k3 : q3 = 0
    · simp only [if_pos k3]
      repeat' first | apply And.intro | intro _
      all_goals first | omega | assumption | trivial | rfl | (trace_state; fail)
    · simp only [if_neg k3, List.append_nil]
      repeat' first | apply And.intro | intro _
      all_goals first | omega | assumption | trivial | rfl | (simp [Tree.ok, tyd_inj, packAV, AV.same, AV.same.sameL, encV, encS, enc, inK, Nd.ok, List.headD_cons, List.cons_append, List.nil_append, List.append_nil, true_and, and_true, Bool.true_and, Bool.and_true, loop_next, weakBs_nil, weakBs_cons, weakB_self, weakB_row, weakB_int, weakL_nil, weakL_unk, weakL_guess, isRow_own, isRow_unk, weakL_int, weakL_bool, weakL_str, weakL_own, weakL_view, weakL_nilS, noRow_int, noRow_bool, own_inj, LTree.val, cond_true, cond_false, Prod.mk.injEq, List.cons.injEq, AV.int.injEq, AV.bool.injEq, AV.str.injEq, AV.agg.injEq]; done) | (simp [Tree.ok, tyd_inj, packAV, AV.same, AV.same.sameL, encV, encS, enc, inK, Nd.ok, List.headD_cons, List.cons_append, List.nil_append, List.append_nil, true_and, and_true, Bool.true_and, Bool.and_true, loop_next, weakBs_nil, weakBs_cons, weakB_self, weakB_row, weakB_int, weakL_nil, weakL_unk, weakL_guess, isRow_own, isRow_unk, weakL_int, weakL_bool, weakL_str, weakL_own, weakL_view, weakL_nilS, noRow_int, noRow_bool, own_inj, LTree.val, cond_true, cond_false, Prod.mk.injEq, List.cons.injEq, AV.int.injEq, AV.bool.injEq, AV.str.injEq, AV.agg.injEq]; omega) | (trace_state; fail)
  · rw [show i.toNat = 0 by omega]
    simp [Tree.ok, tyd_inj, packAV, AV.same, AV.same.sameL, encV, encS, enc, inK, Nd.ok, List.headD_cons, List.cons_append, List.nil_append, List.append_nil, true_and, and_true, Bool.true_and, Bool.and_true, loop_next, weakBs_nil, weakBs_cons, weakB_self, weakB_row, weakB_int, weakL_nil, weakL_unk, weakL_guess, isRow_own, isRow_unk, weakL_int, weakL_bool, weakL_str, weakL_own, weakL_view, weakL_nilS, noRow_int, noRow_bool, own_inj, LTree.val, cond_true, cond_false, Prod.mk.injEq, List.cons.injEq, AV.int.injEq, AV.bool.injEq, AV.str.injEq, AV.agg.injEq, mirGo]
theorem loops_iMirror : ∀ c, Tryz.f27.body = some c → LoopsOk Tryz.prog (addL (firstId (loopAt Tryz.f27 0)) ann_iMirror_0 noL) Tryz.f27.ntmps c := loopsN fun i hi ann h => by
  have hn : loopN Tryz.f27 = 1 := by kernel_rfl
  rw [hn] at hi
  exact match i, hi, h with
    | 0, _, h => (Option.some.inj ((show (addL (firstId (loopAt Tryz.f27 0)) ann_iMirror_0 noL) (firstId (loopAt Tryz.f27 0)) = some ann_iMirror_0 from by kernel_rfl).symm.trans h)) ▸ loop_iMirror_0
set_option maxHeartbeats 1000000 in
theorem sat_iMirror : Sat Tryz.prog 27 ct_iMirror := by
  refine sat_typed (C := C_Tu_4) (L := (addL (firstId (loopAt Tryz.f27 0)) ann_iMirror_0 noL)) (wr := false) mixedOk Tryz.func27 C_Tu_4_ok (loops_iMirror) (fun _ => by first | rfl | (simp [ownsOf, ownsOf.ownsL, enc, encV, encS])) fun x hp => ?_
  obtain ⟨(x : tTuning.den), _⟩ := x
  replace hp : ((x.2.2 : List tFrac.den).length : Int) ≤ 9223372036854775807 := hp
  have htree : exFunc Tryz.prog C_Tu_4 false (addL (firstId (loopAt Tryz.f27 0)) ann_iMirror_0 noL) Tryz.f27 (encA [.s tTuning] (x, ())) = .need ((↑(List.length x.snd.snd) : Int) ≤ (9223372036854775807 : Int)) (.ite (!tuneF x) (.leaf [.agg [.int .i64 ((0 : Int)), .int .i64 ((0 : Int)), .int .i64 ((0 : Int)), .int .i64 ((0 : Int)), .nilS], .int .i64 ((1 : Int))]) (.need (inK IntKind.i64 ((↑(List.length x.snd.snd) : Int) - (1 : Int))) (.need (tuneF x = true ∧ ((0 : Int) ≤ (↑(List.length x.snd.snd) : Int) - (1 : Int) ∧ (↑(List.length x.snd.snd) : Int) - (1 : Int) ≤ (↑(List.length x.snd.snd) : Int) - (1 : Int)) ∧ (↑[((1 : Int), (1 : Int))].length : Int) = (↑(List.length x.snd.snd) : Int) - ((↑(List.length x.snd.snd) : Int) - (1 : Int))) (.ite (decide ((mirGo x.snd.fst x.snd.snd ((↑(List.length x.snd.snd) : Int) - (1 : Int)).toNat).snd = (0 : Int))) (.leaf [.agg [.int .i64 (x.fst.fst), .int .i64 (x.fst.snd), .int .i64 (x.snd.fst.fst), .int .i64 (x.snd.fst.snd), .own (I64.pair I64) ([((1 : Int), (1 : Int))] ++ (mirGo x.snd.fst x.snd.snd ((↑(List.length x.snd.snd) : Int) - (1 : Int)).toNat).fst)], .int .i64 ((0 : Int))]) (.leaf [.agg [.int .i64 ((0 : Int)), .int .i64 ((0 : Int)), .int .i64 ((0 : Int)), .int .i64 ((0 : Int)), .nilS], .int .i64 ((2 : Int))]))))) := by kernel_rfl
  refine (congrArg (Tree.ok _) htree).mpr ?_
  clear htree
  obtain ⟨⟨b1, b2⟩, ⟨o1, o2⟩, rs⟩ := x
  simp only [Tree.ok, tyd_inj, packAV, AV.same, AV.same.sameL, encV, encS, enc, inK, Nd.ok, List.headD_cons, List.cons_append, List.nil_append, List.append_nil, true_and, and_true, Bool.true_and, Bool.and_true, mirF, Bool.not_eq_true', Bool.not_eq_false']
  by_cases h : tuneF ((b1, b2), (o1, o2), rs) = true
  · have hb : okF b1 b2 = true ∧ okF o1 o2 = true ∧ 1 ≤ rs.length ∧ rs.length ≤ 24 := tune_bd h
    have e : ((rs.length : Int) - 1).toNat = rs.length - 1 := by omega
    have hl := mirGo_len (o1, o2) rs (rs.length - 1)
    simp only [h, e, Bool.true_eq_false, false_implies, true_implies, if_true]
    by_cases k2 : (mirGo (o1, o2) rs (rs.length - 1)).2 = 0
    · simp only [if_pos k2, decide_eq_true_eq, decide_eq_false_iff_not]
      repeat' first | apply And.intro | intro _
      all_goals first | omega | assumption | trivial | rfl | contradiction | (simp; omega) | (trace_state; fail)
    · simp only [if_neg k2, decide_eq_true_eq, decide_eq_false_iff_not]
      repeat' first | apply And.intro | intro _
      all_goals first | omega | assumption | trivial | rfl | contradiction | (simp; omega) | (trace_state; fail)
  · rw [Bool.not_eq_true] at h
    simp [h, Tree.ok, tyd_inj, packAV, AV.same, AV.same.sameL, encV, encS, enc, inK, Nd.ok, List.headD_cons, List.cons_append, List.nil_append, List.append_nil, true_and, and_true, Bool.true_and, Bool.and_true]
    try omega
def C_Tu_5 : FuncId → Option Ct := addC 27 ct_iMirror C_Tu_4
theorem C_Tu_5_ok : COk Tryz.prog C_Tu_5 := addC_ok C_Tu_4_ok sat_iMirror
def ann_iReadTuning_0 : LAnn := { sameS := [0, 2, 12, 13], modS := [3, 4, 14], sameH := [12], modH := [2], base := 900000, nilE := [], nilB := [], G := fun
  | ⟨[.str s, .ptr 2 0, .row 12, .int .i64 n], [.row .str ws], [.bool r, .own (.pair (.int .i64) (.int .i64)) out, .int .i64 i], [[.int .i64 z1, .int .i64 z2, .int .i64 z3, .int .i64 z4, .nilS]]⟩ => some (.p (n = (ws.length : Int) ∧ (0 ≤ i ∧ i ≤ n) ∧ n ≤ 2000000 ∧ (out.length : Int) ≤ i ∧ (∀ w ∈ ws, w.length ≤ 2000000)), .ite (allM frO (ws.drop i.toNat)).isSome (.leaf (.exit 0) [.bool r, .own tFrac (out ++ preM frO (ws.drop i.toNat)), .unk] [[.int .i64 z1, .int .i64 z2, .int .i64 z3, .int .i64 z4, .nilS]]) (.leaf .ret [.bool false, .own tFrac (out ++ preM frO (ws.drop i.toNat)), .unk] [[.int .i64 0, .int .i64 0, .int .i64 0, .int .i64 0, .nilS]]))
  | _ => none }
def ct_iReadTuning : Ct := ctOf [.v .str] (fun ((s : List UInt8), _) => .p (s.length ≤ 1048576)) (fun ((s : List UInt8), _) => .tup [.agg (enc tTuning (tnI s).1), .bool (tnI s).2])
set_option maxHeartbeats 1000000 in
theorem loop_iReadTuning_0 : LoopSat Tryz.prog Tryz.f30.ntmps (loopAt Tryz.f30 0) ann_iReadTuning_0 := by
  refine loopSat_of (C := C_Tu_5) (L := (addL (firstId (loopAt Tryz.f30 0)) ann_iReadTuning_0 noL)) (wr := false) mixedOk C_Tu_5_ok (loopsIn0 (by kernel_rfl)) (fun d => match d.same, d.vals with | [_, _, _, .int _ n], [_, _, .int _ i] => (n - i).toNat | _, _ => 0) fun d p t hG hp => ?_
  simp only [ann_iReadTuning_0] at hG
  split at hG
  rotate_left
  · simp at hG
  rename_i s n ws r out i z1 z2 z3 z4
  simp only [Option.some.injEq, Prod.mk.injEq] at hG
  obtain ⟨rfl, rfl⟩ := hG
  have htree : exRound Tryz.prog C_Tu_5 false (addL (firstId (loopAt Tryz.f30 0)) ann_iReadTuning_0 noL) Tryz.f30.ntmps ann_iReadTuning_0 (loopAt Tryz.f30 0) ⟨[.str s, .ptr 2 0, .row 12, .int .i64 n], [.row .str ws], [.bool r, .own tFrac out, .int .i64 i], [[.int .i64 z1, .int .i64 z2, .int .i64 z3, .int .i64 z4, .nilS]]⟩ = .ite (decide (i < n)) (.need ((0 : Int) ≤ i ∧ i < (↑ws.length : Int)) (.need (i.toNat < ws.length) (.need (List.length (ws.getD i.toNat Ty.str.zero) ≤ (2000000 : Nat)) (.ite (!(frI (ws.getD i.toNat Ty.str.zero)).snd) (.leaf (.ret, ⟨[.str (s), .ptr 2 0, .row 12, .int .i64 (n)], [.row (Ty.str) (ws)], [.bool (false), .own (I64.pair I64) (out), .int .i64 (i)], [[.int .i64 ((0 : Int)), .int .i64 ((0 : Int)), .int .i64 ((0 : Int)), .int .i64 ((0 : Int)), .nilS]]⟩)) (.need (out.length + [(frI (ws.getD i.toNat Ty.str.zero)).fst].length ≤ (16777216 : Nat)) (.need (inK IntKind.i64 (i + (1 : Int))) (.leaf (.normal, ⟨[.str (s), .ptr 2 0, .row 12, .int .i64 (n)], [.row (Ty.str) (ws)], [.bool (r), .own (I64.pair I64) (out ++ [(frI (ws.getD i.toNat Ty.str.zero)).fst]), .int .i64 (i + (1 : Int))], [[.int .i64 (z1), .int .i64 (z2), .int .i64 (z3), .int .i64 (z4), .nilS]]⟩)))))))) (.leaf ((.exit 0), ⟨[.str (s), .ptr 2 0, .row 12, .int .i64 (n)], [.row (Ty.str) (ws)], [.bool (r), .own (I64.pair I64) (out), .int .i64 (i)], [[.int .i64 (z1), .int .i64 (z2), .int .i64 (z3), .int .i64 (z4), .nilS]]⟩)) := by kernel_rfl
  rw [htree]
  clear htree
  replace hp : n = (ws.length : Int) ∧ (0 ≤ i ∧ i ≤ n) ∧ n ≤ 2000000 ∧ (out.length : Int) ≤ i ∧ (∀ w ∈ ws, w.length ≤ 2000000) := hp
  obtain ⟨rfl, hi, hn, ho, hw⟩ := hp
  have hz : ∀ k : Nat, ws.getD k Ty.str.zero = ws.getD k [] := fun _ => rfl
  simp only [Tree.ok, tyd_inj, packAV, AV.same, AV.same.sameL, encV, encS, enc, inK, Nd.ok, List.headD_cons, List.cons_append, List.nil_append, List.append_nil, true_and, and_true, Bool.true_and, Bool.and_true, loop_next, weakBs_nil, weakBs_cons, weakB_self, weakB_row, weakB_int, weakL_nil, weakL_unk, weakL_guess, isRow_own, isRow_unk, weakL_int, weakL_bool, weakL_str, weakL_own, weakL_view, weakL_nilS, noRow_int, noRow_bool, own_inj, LTree.val, cond_true, cond_false, Prod.mk.injEq, List.cons.injEq, AV.int.injEq, AV.bool.injEq, AV.str.injEq, AV.agg.injEq, ann_iReadTuning_0, hz, decide_eq_true_eq, decide_eq_false_iff_not]
  refine ⟨fun ha => ?_, fun ha => ?_⟩
  · have hx := getD_mem_len hw i.toNat (by omega)
    rw [allM_at _ ws i.toNat (by omega), preM_at _ ws i.toNat (by omega), show (i + 1).toNat = i.toNat + 1 by omega]
    generalize ws.getD i.toNat [] = x at *
    have hD : frO x = (if (frI x).2 = true then some (frI x).1 else none) := rfl
    rw [hD]
    clear hD
    generalize frI x = f at *
    obtain ⟨⟨f1, f2⟩, f3⟩ := f
    simp only
    cases f3
    · simp only [Bool.false_eq_true, if_false]
      repeat' first | apply And.intro | intro _
      all_goals first | omega | exact hw | exact hw _ ‹_› | trivial | rfl | contradiction | (simp; done) | (simp [Tree.ok, tyd_inj, packAV, AV.same, AV.same.sameL, encV, encS, enc, inK, Nd.ok, List.headD_cons, List.cons_append, List.nil_append, List.append_nil, true_and, and_true, Bool.true_and, Bool.and_true, loop_next, weakBs_nil, weakBs_cons, weakB_self, weakB_row, weakB_int, weakL_nil, weakL_unk, weakL_guess, isRow_own, isRow_unk, weakL_int, weakL_bool, weakL_str, weakL_own, weakL_view, weakL_nilS, noRow_int, noRow_bool, own_inj, LTree.val, cond_true, cond_false, Prod.mk.injEq, List.cons.injEq, AV.int.injEq, AV.bool.injEq, AV.str.injEq, AV.agg.injEq]; done) | (simp_all [Tree.ok, tyd_inj, packAV, AV.same, AV.same.sameL, encV, encS, enc, inK, Nd.ok, List.headD_cons, List.cons_append, List.nil_append, List.append_nil, true_and, and_true, Bool.true_and, Bool.and_true, loop_next, weakBs_nil, weakBs_cons, weakB_self, weakB_row, weakB_int, weakL_nil, weakL_unk, weakL_guess, isRow_own, isRow_unk, weakL_int, weakL_bool, weakL_str, weakL_own, weakL_view, weakL_nilS, noRow_int, noRow_bool, own_inj, LTree.val, cond_true, cond_false, Prod.mk.injEq, List.cons.injEq, AV.int.injEq, AV.bool.injEq, AV.str.injEq, AV.agg.injEq]; done) | (simp [Tree.ok, tyd_inj, packAV, AV.same, AV.same.sameL, encV, encS, enc, inK, Nd.ok, List.headD_cons, List.cons_append, List.nil_append, List.append_nil, true_and, and_true, Bool.true_and, Bool.and_true, loop_next, weakBs_nil, weakBs_cons, weakB_self, weakB_row, weakB_int, weakL_nil, weakL_unk, weakL_guess, isRow_own, isRow_unk, weakL_int, weakL_bool, weakL_str, weakL_own, weakL_view, weakL_nilS, noRow_int, noRow_bool, own_inj, LTree.val, cond_true, cond_false, Prod.mk.injEq, List.cons.injEq, AV.int.injEq, AV.bool.injEq, AV.str.injEq, AV.agg.injEq]; omega) | (trace_state; fail)
    · simp only [if_true]
      cases hr : allM frO (ws.drop (i.toNat + 1)) with
      | some l =>
        simp only [Option.isSome_some, List.append_assoc, List.singleton_append, List.length_append, List.length_cons, List.length_nil]
        repeat' first | apply And.intro | intro _
        all_goals first | omega | exact hw | exact hw _ ‹_› | trivial | rfl | contradiction | (simp; done) | (simp [Tree.ok, tyd_inj, packAV, AV.same, AV.same.sameL, encV, encS, enc, inK, Nd.ok, List.headD_cons, List.cons_append, List.nil_append, List.append_nil, true_and, and_true, Bool.true_and, Bool.and_true, loop_next, weakBs_nil, weakBs_cons, weakB_self, weakB_row, weakB_int, weakL_nil, weakL_unk, weakL_guess, isRow_own, isRow_unk, weakL_int, weakL_bool, weakL_str, weakL_own, weakL_view, weakL_nilS, noRow_int, noRow_bool, own_inj, LTree.val, cond_true, cond_false, Prod.mk.injEq, List.cons.injEq, AV.int.injEq, AV.bool.injEq, AV.str.injEq, AV.agg.injEq]; done) | (simp_all [Tree.ok, tyd_inj, packAV, AV.same, AV.same.sameL, encV, encS, enc, inK, Nd.ok, List.headD_cons, List.cons_append, List.nil_append, List.append_nil, true_and, and_true, Bool.true_and, Bool.and_true, loop_next, weakBs_nil, weakBs_cons, weakB_self, weakB_row, weakB_int, weakL_nil, weakL_unk, weakL_guess, isRow_own, isRow_unk, weakL_int, weakL_bool, weakL_str, weakL_own, weakL_view, weakL_nilS, noRow_int, noRow_bool, own_inj, LTree.val, cond_true, cond_false, Prod.mk.injEq, List.cons.injEq, AV.int.injEq, AV.bool.injEq, AV.str.injEq, AV.agg.injEq]; done) | (simp [Tree.ok, tyd_inj, packAV, AV.same, AV.same.sameL, encV, encS, enc, inK, Nd.ok, List.headD_cons, List.cons_append, List.nil_append, List.append_nil, true_and, and_true, Bool.true_and, Bool.and_true, loop_next, weakBs_nil, weakBs_cons, weakB_self, weakB_row, weakB_int, weakL_nil, weakL_unk, weakL_guess, isRow_own, isRow_unk, weakL_int, weakL_bool, weakL_str, weakL_own, weakL_view, weakL_nilS, noRow_int, noRow_bool, own_inj, LTree.val, cond_true, cond_false, Prod.mk.injEq, List.cons.injEq, AV.int.injEq, AV.bool.injEq, AV.str.injEq, AV.agg.injEq]; omega) | (trace_state; fail)
      | none =>
        simp only [Option.isSome_none, List.append_assoc, List.singleton_append, List.length_append, List.length_cons, List.length_nil]
        repeat' first | apply And.intro | intro _
        all_goals first | omega | exact hw | exact hw _ ‹_› | trivial | rfl | contradiction | (simp; done) | (simp [Tree.ok, tyd_inj, packAV, AV.same, AV.same.sameL, encV, encS, enc, inK, Nd.ok, List.headD_cons, List.cons_append, List.nil_append, List.append_nil, true_and, and_true, Bool.true_and, Bool.and_true, loop_next, weakBs_nil, weakBs_cons, weakB_self, weakB_row, weakB_int, weakL_nil, weakL_unk, weakL_guess, isRow_own, isRow_unk, weakL_int, weakL_bool, weakL_str, weakL_own, weakL_view, weakL_nilS, noRow_int, noRow_bool, own_inj, LTree.val, cond_true, cond_false, Prod.mk.injEq, List.cons.injEq, AV.int.injEq, AV.bool.injEq, AV.str.injEq, AV.agg.injEq]; done) | (simp_all [Tree.ok, tyd_inj, packAV, AV.same, AV.same.sameL, encV, encS, enc, inK, Nd.ok, List.headD_cons, List.cons_append, List.nil_append, List.append_nil, true_and, and_true, Bool.true_and, Bool.and_true, loop_next, weakBs_nil, weakBs_cons, weakB_self, weakB_row, weakB_int, weakL_nil, weakL_unk, weakL_guess, isRow_own, isRow_unk, weakL_int, weakL_bool, weakL_str, weakL_own, weakL_view, weakL_nilS, noRow_int, noRow_bool, own_inj, LTree.val, cond_true, cond_false, Prod.mk.injEq, List.cons.injEq, AV.int.injEq, AV.bool.injEq, AV.str.injEq, AV.agg.injEq]; done) | (simp [Tree.ok, tyd_inj, packAV, AV.same, AV.same.sameL, encV, encS, enc, inK, Nd.ok, List.headD_cons, List.cons_append, List.nil_append, List.append_nil, true_and, and_true, Bool.true_and, Bool.and_true, loop_next, weakBs_nil, weakBs_cons, weakB_self, weakB_row, weakB_int, weakL_nil, weakL_unk, weakL_guess, isRow_own, isRow_unk, weakL_int, weakL_bool, weakL_str, weakL_own, weakL_view, weakL_nilS, noRow_int, noRow_bool, own_inj, LTree.val, cond_true, cond_false, Prod.mk.injEq, List.cons.injEq, AV.int.injEq, AV.bool.injEq, AV.str.injEq, AV.agg.injEq]; omega) | (trace_state; fail)
  · rw [List.drop_eq_nil_of_le (by omega)]
    simp [Tree.ok, tyd_inj, packAV, AV.same, AV.same.sameL, encV, encS, enc, inK, Nd.ok, List.headD_cons, List.cons_append, List.nil_append, List.append_nil, true_and, and_true, Bool.true_and, Bool.and_true, loop_next, weakBs_nil, weakBs_cons, weakB_self, weakB_row, weakB_int, weakL_nil, weakL_unk, weakL_guess, isRow_own, isRow_unk, weakL_int, weakL_bool, weakL_str, weakL_own, weakL_view, weakL_nilS, noRow_int, noRow_bool, own_inj, LTree.val, cond_true, cond_false, Prod.mk.injEq, List.cons.injEq, AV.int.injEq, AV.bool.injEq, AV.str.injEq, AV.agg.injEq, allM, preM]
theorem loops_iReadTuning : ∀ c, Tryz.f30.body = some c → LoopsOk Tryz.prog (addL (firstId (loopAt Tryz.f30 0)) ann_iReadTuning_0 noL) Tryz.f30.ntmps c := loopsN fun i hi ann h => by
  have hn : loopN Tryz.f30 = 1 := by kernel_rfl
  rw [hn] at hi
  exact match i, hi, h with
    | 0, _, h => (Option.some.inj ((show (addL (firstId (loopAt Tryz.f30 0)) ann_iReadTuning_0 noL) (firstId (loopAt Tryz.f30 0)) = some ann_iReadTuning_0 from by kernel_rfl).symm.trans h)) ▸ loop_iReadTuning_0
set_option maxHeartbeats 1000000 in
theorem sat_iReadTuning : Sat Tryz.prog 30 ct_iReadTuning := by
  refine sat_typedF (C := C_Tu_5) (L := (addL (firstId (loopAt Tryz.f30 0)) ann_iReadTuning_0 noL)) (wr := false) mixedOk Tryz.func30 C_Tu_5_ok (loops_iReadTuning) (fun _ => by first | rfl | (simp [ownsOf, ownsOf.ownsL, enc, encV, encS])) fun x hp => ?_
  obtain ⟨(s : List UInt8), _⟩ := x
  replace hp : s.length ≤ 1048576 := hp
  have htree : exFunc Tryz.prog C_Tu_5 false (addL (firstId (loopAt Tryz.f30 0)) ann_iReadTuning_0 noL) Tryz.f30 (encA [.v .str] (s, ())) true = .need (s.length ≤ (2000000 : Nat)) (.need ((↑(wordsF s).length : Int) = (↑(wordsF s).length : Int) ∧ ((0 : Int) ≤ (0 : Int) ∧ (0 : Int) ≤ (↑(wordsF s).length : Int)) ∧ (↑(wordsF s).length : Int) ≤ (2000000 : Int) ∧ (↑(0 : Nat) : Int) ≤ (0 : Int) ∧ ∀ (w : Ty.str.den), w ∈ wordsF s → List.length w ≤ (2000000 : Nat)) (.ite ((allM frO (List.drop (Int.toNat (0 : Int)) (wordsF s))).isSome) (.ite (decide ((↑([] ++ preM frO (List.drop (Int.toNat (0 : Int)) (wordsF s))).length : Int) < (3 : Int))) (.leaf [.agg [.int .i64 ((0 : Int)), .int .i64 ((0 : Int)), .int .i64 ((0 : Int)), .int .i64 ((0 : Int)), .nilS], .lit false]) (.need ((0 : Int) ≤ (0 : Int) ∧ (0 : Int) < (↑([] ++ preM frO (List.drop (Int.toNat (0 : Int)) (wordsF s))).length : Int)) (.need (Int.toNat (0 : Int) < ([] ++ preM frO (List.drop (Int.toNat (0 : Int)) (wordsF s))).length) (.need ((0 : Int) ≤ (1 : Int) ∧ (1 : Int) < (↑([] ++ preM frO (List.drop (Int.toNat (0 : Int)) (wordsF s))).length : Int)) (.need (Int.toNat (1 : Int) < ([] ++ preM frO (List.drop (Int.toNat (0 : Int)) (wordsF s))).length) (.need (((0 : Int) ≤ (2 : Int) ∧ (2 : Int) ≤ (↑([] ++ preM frO (List.drop (Int.toNat (0 : Int)) (wordsF s))).length : Int)) ∧ (0 : Nat) < ([] ++ preM frO (List.drop (Int.toNat (0 : Int)) (wordsF s))).length) (.need ((↑(List.take ((↑([] ++ preM frO (List.drop (Int.toNat (0 : Int)) (wordsF s))).length : Int).toNat - Int.toNat (2 : Int)) (List.drop (Int.toNat (2 : Int)) ([] ++ preM frO (List.drop (Int.toNat (0 : Int)) (wordsF s))))).length : Int) ≤ (9223372036854775807 : Int)) (.ite (!tuneF (([] ++ preM frO (List.drop (Int.toNat (0 : Int)) (wordsF s))).getD (Int.toNat (0 : Int)) tFrac.zero, ([] ++ preM frO (List.drop (Int.toNat (0 : Int)) (wordsF s))).getD (Int.toNat (1 : Int)) tFrac.zero, List.take ((↑([] ++ preM frO (List.drop (Int.toNat (0 : Int)) (wordsF s))).length : Int).toNat - Int.toNat (2 : Int)) (List.drop (Int.toNat (2 : Int)) ([] ++ preM frO (List.drop (Int.toNat (0 : Int)) (wordsF s)))))) (.leaf [.agg [.int .i64 ((0 : Int)), .int .i64 ((0 : Int)), .int .i64 ((0 : Int)), .int .i64 ((0 : Int)), .nilS], .lit false]) (.need ((↑(List.take ((↑([] ++ preM frO (List.drop (Int.toNat (0 : Int)) (wordsF s))).length : Int).toNat - Int.toNat (2 : Int)) (List.drop (Int.toNat (2 : Int)) ([] ++ preM frO (List.drop (Int.toNat (0 : Int)) (wordsF s))))).length : Int) ≤ (9223372036854775807 : Int)) (.ite (!decide ((if tuneF (([] ++ preM frO (List.drop (Int.toNat (0 : Int)) (wordsF s))).getD (Int.toNat (0 : Int)) tFrac.zero, ([] ++ preM frO (List.drop (Int.toNat (0 : Int)) (wordsF s))).getD (Int.toNat (1 : Int)) tFrac.zero, List.take ((↑([] ++ preM frO (List.drop (Int.toNat (0 : Int)) (wordsF s))).length : Int).toNat - Int.toNat (2 : Int)) (List.drop (Int.toNat (2 : Int)) ([] ++ preM frO (List.drop (Int.toNat (0 : Int)) (wordsF s))))) = true then tuneT (([] ++ preM frO (List.drop (Int.toNat (0 : Int)) (wordsF s))).getD (Int.toNat (0 : Int)) tFrac.zero, ([] ++ preM frO (List.drop (Int.toNat (0 : Int)) (wordsF s))).getD (Int.toNat (1 : Int)) tFrac.zero, List.take ((↑([] ++ preM frO (List.drop (Int.toNat (0 : Int)) (wordsF s))).length : Int).toNat - Int.toNat (2 : Int)) (List.drop (Int.toNat (2 : Int)) ([] ++ preM frO (List.drop (Int.toNat (0 : Int)) (wordsF s))))) else []) = s)) (.leaf [.agg [.int .i64 ((0 : Int)), .int .i64 ((0 : Int)), .int .i64 ((0 : Int)), .int .i64 ((0 : Int)), .nilS], .lit false]) (.leaf [.agg [.int .i64 ((([] ++ preM frO (List.drop (Int.toNat (0 : Int)) (wordsF s))).getD (Int.toNat (0 : Int)) tFrac.zero).fst), .int .i64 ((([] ++ preM frO (List.drop (Int.toNat (0 : Int)) (wordsF s))).getD (Int.toNat (0 : Int)) tFrac.zero).snd), .int .i64 ((([] ++ preM frO (List.drop (Int.toNat (0 : Int)) (wordsF s))).getD (Int.toNat (1 : Int)) tFrac.zero).fst), .int .i64 ((([] ++ preM frO (List.drop (Int.toNat (0 : Int)) (wordsF s))).getD (Int.toNat (1 : Int)) tFrac.zero).snd), .view (I64.pair I64) (List.take ((↑([] ++ preM frO (List.drop (Int.toNat (0 : Int)) (wordsF s))).length : Int).toNat - Int.toNat (2 : Int)) (List.drop (Int.toNat (2 : Int)) ([] ++ preM frO (List.drop (Int.toNat (0 : Int)) (wordsF s)))))], .lit true]))))))))))) (.leaf [.agg [.int .i64 ((0 : Int)), .int .i64 ((0 : Int)), .int .i64 ((0 : Int)), .int .i64 ((0 : Int)), .nilS], .bool (false)]))) := by kernel_rfl
  refine (congrArg (Tree.ok _) htree).mpr ?_
  clear htree
  have hp : s.length ≤ 1048576 := hp
  have hV : tnI s = tnOf s (allM frO (wordsF s)) := rfl
  have hl := wordsF_len s
  have hw : ∀ w ∈ wordsF s, w.length ≤ 2000000 := fun w h => Nat.le_trans (words_len w h) (by omega)
  have hP := preM_all (f := frO) (wordsF s)
  simp only [Tree.ok, tyd_inj, packAV, AV.same, AV.same.sameL, encV, encS, enc, inK, Nd.ok, List.headD_cons, List.cons_append, List.nil_append, List.append_nil, true_and, and_true, Bool.true_and, Bool.and_true, hV, Int.toNat_zero, List.drop_zero, List.nil_append]
  clear hV
  generalize hA : allM frO (wordsF s) = A at *
  cases A with
  | none =>
    simp only [Option.isSome_none, tnOf]
    repeat' first | apply And.intro | intro _
    all_goals first | omega | exact hw _ ‹_› | trivial | rfl | contradiction | (simp [Tree.ok, tyd_inj, packAV, AV.same, AV.same.sameL, encV, encS, enc, inK, Nd.ok, List.headD_cons, List.cons_append, List.nil_append, List.append_nil, true_and, and_true, Bool.true_and, Bool.and_true]; done) | (simp_all [Tree.ok, tyd_inj, packAV, AV.same, AV.same.sameL, encV, encS, enc, inK, Nd.ok, List.headD_cons, List.cons_append, List.nil_append, List.append_nil, true_and, and_true, Bool.true_and, Bool.and_true]; done) | (trace_state; fail)
  | some l =>
    have hll := allM_len _ _ hA
    rw [hP l rfl]
    clear hP
    have e2 : Int.toNat 2 = 2 := rfl
    have e1 : Int.toNat 1 = 1 := rfl
    have e3 : ((l.length : Int)).toNat = l.length := by omega
    have et : (l.drop 2).take (l.length - 2) = l.drop 2 := List.take_of_length_le (by rw [List.length_drop]; exact Nat.le_refl _)
    simp only [Option.isSome_some, tnOf, e1, e2, e3, et]
    have hT : (l.getD 0 tFrac.zero, l.getD 1 tFrac.zero, l.drop 2) = tuneOf l := rfl
    have hd : (l.drop 2).length = l.length - 2 := List.length_drop
    simp only [hT, hd, Option.isSome_some, Bool.true_eq_false, false_implies, true_implies]
    by_cases h3 : 3 ≤ l.length
    · have h3' : ¬ ((l.length : Int) < 3) := by omega
      simp only [h3', decide_false, Bool.false_eq_true, false_implies, true_implies]
      cases hk : tuneF (tuneOf l)
      · simp only [Bool.false_eq_true, false_and, and_false, if_false, decide_true, decide_false, Bool.not_true, Bool.not_false, Bool.true_eq_false, false_implies, true_implies]
        repeat' first | apply And.intro | intro _
        all_goals first | omega | exact hw _ ‹_› | trivial | rfl | contradiction | (simp [Tree.ok, tyd_inj, packAV, AV.same, AV.same.sameL, encV, encS, enc, inK, Nd.ok, List.headD_cons, List.cons_append, List.nil_append, List.append_nil, true_and, and_true, Bool.true_and, Bool.and_true]; done) | (simp_all [Tree.ok, tyd_inj, packAV, AV.same, AV.same.sameL, encV, encS, enc, inK, Nd.ok, List.headD_cons, List.cons_append, List.nil_append, List.append_nil, true_and, and_true, Bool.true_and, Bool.and_true]; done) | (trace_state; fail)
      · by_cases ht : tuneT (tuneOf l) = s
        · rw [if_pos ⟨h3, rfl, ht⟩]
          simp only [ht, if_true, decide_true, Bool.not_true, Bool.false_eq_true, false_implies, true_implies]
          repeat' first | apply And.intro | intro _
          all_goals first | omega | exact hw _ ‹_› | trivial | rfl | contradiction | (simp [Tree.ok, tyd_inj, packAV, AV.same, AV.same.sameL, encV, encS, enc, inK, Nd.ok, List.headD_cons, List.cons_append, List.nil_append, List.append_nil, true_and, and_true, Bool.true_and, Bool.and_true]; done) | (simp_all [Tree.ok, tyd_inj, packAV, AV.same, AV.same.sameL, encV, encS, enc, inK, Nd.ok, List.headD_cons, List.cons_append, List.nil_append, List.append_nil, true_and, and_true, Bool.true_and, Bool.and_true]; done) | (trace_state; fail)
        · rw [if_neg (fun h => ht h.2.2)]
          simp only [ht, if_true, if_false, decide_false, Bool.not_false, true_implies, Bool.true_eq_false, false_implies]
          repeat' first | apply And.intro | intro _
          all_goals first | omega | exact hw _ ‹_› | trivial | rfl | contradiction | (simp [Tree.ok, tyd_inj, packAV, AV.same, AV.same.sameL, encV, encS, enc, inK, Nd.ok, List.headD_cons, List.cons_append, List.nil_append, List.append_nil, true_and, and_true, Bool.true_and, Bool.and_true]; done) | (simp_all [Tree.ok, tyd_inj, packAV, AV.same, AV.same.sameL, encV, encS, enc, inK, Nd.ok, List.headD_cons, List.cons_append, List.nil_append, List.append_nil, true_and, and_true, Bool.true_and, Bool.and_true]; done) | (trace_state; fail)
    · rw [if_neg (fun h => h3 h.1)]
      have h3' : (l.length : Int) < 3 := by omega
      simp only [h3', decide_true, Bool.true_eq_false, false_implies, true_implies]
      repeat' first | apply And.intro | intro _
      all_goals first | omega | exact hw _ ‹_› | trivial | rfl | contradiction | (simp [Tree.ok, tyd_inj, packAV, AV.same, AV.same.sameL, encV, encS, enc, inK, Nd.ok, List.headD_cons, List.cons_append, List.nil_append, List.append_nil, true_and, and_true, Bool.true_and, Bool.and_true]; done) | (simp_all [Tree.ok, tyd_inj, packAV, AV.same, AV.same.sameL, encV, encS, enc, inK, Nd.ok, List.headD_cons, List.cons_append, List.nil_append, List.append_nil, true_and, and_true, Bool.true_and, Bool.and_true]; done) | (trace_state; fail)
def C_Tu_6 : FuncId → Option Ct := addC 30 ct_iReadTuning C_Tu_5
theorem C_Tu_6_ok : COk Tryz.prog C_Tu_6 := addC_ok C_Tu_5_ok sat_iReadTuning
def allK (x : tTuning.den) : Bool → Nat → Int → Bool
  | al, 0, _ => al
  | al, n + 1, i => allK x (al && ((fokF x i).2 == 0)) n (i + 1)
theorem allK_iff (x : tTuning.den) : ∀ (n : Nat) (al : Bool) (i : Int), allK x al n i = true → al = true ∧ ∀ j : Nat, j < n → (fokF x (i + j)).2 = 0
  | 0, al, i, h => ⟨h, fun j hj => by omega⟩
  | n + 1, al, i, h => by
    obtain ⟨h1, h2⟩ := allK_iff x n _ _ h
    simp only [Bool.and_eq_true, beq_iff_eq] at h1
    refine ⟨h1.1, fun j hj => ?_⟩
    cases j with
    | zero => rw [show i + ((0 : Nat) : Int) = i by omega]; exact h1.2
    | succ j =>
      have := h2 j (by omega)
      rw [show i + 1 + (j : Int) = i + ((j + 1 : Nat) : Int) by omega] at this
      exact this
theorem ratsT_len : ∀ l : List tFrac.den, okFs l = true → (ratsT l).length ≤ 42 * l.length
  | [], _ => by simp [ratsT]
  | a :: l, h => by
    have h' := List.all_eq_true.1 h
    have ha : okF a.1 a.2 = true := h' a List.mem_cons_self
    have hl : okFs l = true := List.all_eq_true.2 fun z hz => h' z (List.mem_cons_of_mem _ hz)
    have ih := ratsT_len l hl
    have la := fracT_len ha
    unfold ratsT at ih ⊢
    rw [List.flatMap_cons]
    simp only [List.length_append, List.length_cons, List.length_nil] at ih ⊢
    omega
theorem tuneT_len {x : tTuning.den} (h : tuneF x = true) : (tuneT x).length ≤ 1048576 := by
  have hb := tuneF_bd h
  have l1 := fracT_len hb.1
  have l2 := fracT_len hb.2.1
  have l3 := ratsT_len _ hb.2.2.2
  have l4 := hb.2.2.1
  unfold tuneT
  simp only [List.length_append, List.length_cons, List.length_nil]
  omega
theorem mirF_len (x : tTuning.den) : ((mirF x).1.2.2 : List tFrac.den).length ≤ 24 := by
  unfold mirF
  split
  · rename_i h
    have hb := tune_bd h
    split
    · have := mirGo_len x.2.1 x.2.2 ((x.2.2 : List tFrac.den).length - 1)
      simp only [List.length_cons]
      omega
    · simp
  · simp
def ann_lawTunings_0 : LAnn := { sameS := [5, 6, 7, 8], modS := [12, 13], sameH := [5, 8, 30], modH := [], base := 900000, nilE := [], nilB := [], G := fun
  | ⟨[.ptr 5 0, .int .i64 n, .int .i64 key, .ptr 8 0], [.box [.int .i64 b1, .int .i64 b2, .int .i64 o1, .int .i64 o2, .row 30], .box [.int .i64 f1, .int .i64 f2], .row (.pair (.int .i64) (.int .i64)) rs], [.bool al, .int .i64 i], []⟩ => some (.p ((0 ≤ i ∧ i ≤ key) ∧ key ≤ 127 ∧ (rs.length : Int) ≤ 24), .leaf (.exit 0) [.bool (allK ((b1, b2), (o1, o2), rs) al (key - i).toNat i), .unk] [])
  | _ => none }
def ct_lawTunings : Ct := ctOf [.v (.seq (.int .u8)), .v (.seq (.int .u8))] (fun ((code : List (Ty.int .u8).den), (more : List (Ty.int .u8).den), _) => .p (bytesOk code ∧ bytesOk more)) (fun ((code : List (Ty.int .u8).den), (more : List (Ty.int .u8).den), _) => .bool true)
set_option maxHeartbeats 1000000 in
theorem loop_lawTunings_0 : LoopSat Tryz.prog Tryz.f5.ntmps (loopAt Tryz.f5 0) ann_lawTunings_0 := by
  refine loopSat_of (C := C_Tu_6) (L := (addL (firstId (loopAt Tryz.f5 0)) ann_lawTunings_0 noL)) (wr := false) mixedOk C_Tu_6_ok (loopsIn0 (by kernel_rfl)) (fun d => match d.same, d.vals with | [_, _, .int _ key, _], [_, .int _ i] => (key - i).toNat | _, _ => 0) fun d p t hG hp => ?_
  simp only [ann_lawTunings_0] at hG
  split at hG
  rotate_left
  · simp at hG
  rename_i n key b1 b2 o1 o2 f1 f2 rs al i
  simp only [Option.some.injEq, Prod.mk.injEq] at hG
  obtain ⟨rfl, rfl⟩ := hG
  have htree : exRound Tryz.prog C_Tu_6 false (addL (firstId (loopAt Tryz.f5 0)) ann_lawTunings_0 noL) Tryz.f5.ntmps ann_lawTunings_0 (loopAt Tryz.f5 0) ⟨[.ptr 5 0, .int .i64 n, .int .i64 key, .ptr 8 0], [.box [.int .i64 b1, .int .i64 b2, .int .i64 o1, .int .i64 o2, .row 30], .box [.int .i64 f1, .int .i64 f2], .row tFrac rs], [.bool al, .int .i64 i], []⟩ = .ite (decide (i < key)) (.need ((↑rs.length : Int) ≤ (9223372036854775807 : Int)) (.ite (al) (.need (inK IntKind.i64 (i + (1 : Int))) (.leaf (.normal, ⟨[.ptr 5 0, .int .i64 (n), .int .i64 (key), .ptr 8 0], [.box [.int .i64 (b1), .int .i64 (b2), .int .i64 (o1), .int .i64 (o2), .row 30], .box [.int .i64 (f1), .int .i64 (f2)], .row (I64.pair I64) (rs)], [.bool ((fokF ((b1, b2), (o1, o2), rs) i).snd == (0 : Int)), .int .i64 (i + (1 : Int))], []⟩))) (.need (inK IntKind.i64 (i + (1 : Int))) (.leaf (.normal, ⟨[.ptr 5 0, .int .i64 (n), .int .i64 (key), .ptr 8 0], [.box [.int .i64 (b1), .int .i64 (b2), .int .i64 (o1), .int .i64 (o2), .row 30], .box [.int .i64 (f1), .int .i64 (f2)], .row (I64.pair I64) (rs)], [.bool (false), .int .i64 (i + (1 : Int))], []⟩))))) (.leaf ((.exit 0), ⟨[.ptr 5 0, .int .i64 (n), .int .i64 (key), .ptr 8 0], [.box [.int .i64 (b1), .int .i64 (b2), .int .i64 (o1), .int .i64 (o2), .row 30], .box [.int .i64 (f1), .int .i64 (f2)], .row (I64.pair I64) (rs)], [.bool (al), .int .i64 (i)], []⟩)) := by kernel_rfl
  rw [htree]
  clear htree
  replace hp : (0 ≤ i ∧ i ≤ key) ∧ key ≤ 127 ∧ (rs.length : Int) ≤ 24 := hp
  obtain ⟨hi, hk, hl⟩ := hp
  simp only [Tree.ok, tyd_inj, packAV, AV.same, AV.same.sameL, encV, encS, enc, inK, Nd.ok, List.headD_cons, List.cons_append, List.nil_append, List.append_nil, true_and, and_true, Bool.true_and, Bool.and_true, loop_next, weakBs_nil, weakBs_cons, weakB_self, weakB_row, weakB_int, weakL_nil, weakL_unk, weakL_guess, isRow_own, isRow_unk, weakL_int, weakL_bool, weakL_str, weakL_own, weakL_view, weakL_nilS, noRow_int, noRow_bool, own_inj, LTree.val, cond_true, cond_false, Prod.mk.injEq, List.cons.injEq, AV.int.injEq, AV.bool.injEq, AV.str.injEq, AV.agg.injEq, ann_lawTunings_0, decide_eq_true_eq, decide_eq_false_iff_not]
  refine ⟨fun ha => ?_, fun ha => ?_⟩
  · obtain ⟨m, hm⟩ : ∃ m, (key - i).toNat = m + 1 := ⟨(key - i).toNat - 1, by omega⟩
    rw [hm, show (key - (i + 1)).toNat = m by omega, allK]
    cases al
    · simp only [Bool.false_and]
      repeat' first | apply And.intro | intro _
      all_goals first | omega | assumption | trivial | rfl | contradiction | (simp [Tree.ok, tyd_inj, packAV, AV.same, AV.same.sameL, encV, encS, enc, inK, Nd.ok, List.headD_cons, List.cons_append, List.nil_append, List.append_nil, true_and, and_true, Bool.true_and, Bool.and_true, loop_next, weakBs_nil, weakBs_cons, weakB_self, weakB_row, weakB_int, weakL_nil, weakL_unk, weakL_guess, isRow_own, isRow_unk, weakL_int, weakL_bool, weakL_str, weakL_own, weakL_view, weakL_nilS, noRow_int, noRow_bool, own_inj, LTree.val, cond_true, cond_false, Prod.mk.injEq, List.cons.injEq, AV.int.injEq, AV.bool.injEq, AV.str.injEq, AV.agg.injEq]; done) | (simp_all [Tree.ok, tyd_inj, packAV, AV.same, AV.same.sameL, encV, encS, enc, inK, Nd.ok, List.headD_cons, List.cons_append, List.nil_append, List.append_nil, true_and, and_true, Bool.true_and, Bool.and_true, loop_next, weakBs_nil, weakBs_cons, weakB_self, weakB_row, weakB_int, weakL_nil, weakL_unk, weakL_guess, isRow_own, isRow_unk, weakL_int, weakL_bool, weakL_str, weakL_own, weakL_view, weakL_nilS, noRow_int, noRow_bool, own_inj, LTree.val, cond_true, cond_false, Prod.mk.injEq, List.cons.injEq, AV.int.injEq, AV.bool.injEq, AV.str.injEq, AV.agg.injEq]; done) | (trace_state; fail)
    · simp only [Bool.true_and]
      repeat' first | apply And.intro | intro _
      all_goals first | omega | assumption | trivial | rfl | contradiction | (simp [Tree.ok, tyd_inj, packAV, AV.same, AV.same.sameL, encV, encS, enc, inK, Nd.ok, List.headD_cons, List.cons_append, List.nil_append, List.append_nil, true_and, and_true, Bool.true_and, Bool.and_true, loop_next, weakBs_nil, weakBs_cons, weakB_self, weakB_row, weakB_int, weakL_nil, weakL_unk, weakL_guess, isRow_own, isRow_unk, weakL_int, weakL_bool, weakL_str, weakL_own, weakL_view, weakL_nilS, noRow_int, noRow_bool, own_inj, LTree.val, cond_true, cond_false, Prod.mk.injEq, List.cons.injEq, AV.int.injEq, AV.bool.injEq, AV.str.injEq, AV.agg.injEq]; done) | (simp_all [Tree.ok, tyd_inj, packAV, AV.same, AV.same.sameL, encV, encS, enc, inK, Nd.ok, List.headD_cons, List.cons_append, List.nil_append, List.append_nil, true_and, and_true, Bool.true_and, Bool.and_true, loop_next, weakBs_nil, weakBs_cons, weakB_self, weakB_row, weakB_int, weakL_nil, weakL_unk, weakL_guess, isRow_own, isRow_unk, weakL_int, weakL_bool, weakL_str, weakL_own, weakL_view, weakL_nilS, noRow_int, noRow_bool, own_inj, LTree.val, cond_true, cond_false, Prod.mk.injEq, List.cons.injEq, AV.int.injEq, AV.bool.injEq, AV.str.injEq, AV.agg.injEq]; done) | (trace_state; fail)
  · rw [show (key - i).toNat = 0 by omega]
    simp [Tree.ok, tyd_inj, packAV, AV.same, AV.same.sameL, encV, encS, enc, inK, Nd.ok, List.headD_cons, List.cons_append, List.nil_append, List.append_nil, true_and, and_true, Bool.true_and, Bool.and_true, loop_next, weakBs_nil, weakBs_cons, weakB_self, weakB_row, weakB_int, weakL_nil, weakL_unk, weakL_guess, isRow_own, isRow_unk, weakL_int, weakL_bool, weakL_str, weakL_own, weakL_view, weakL_nilS, noRow_int, noRow_bool, own_inj, LTree.val, cond_true, cond_false, Prod.mk.injEq, List.cons.injEq, AV.int.injEq, AV.bool.injEq, AV.str.injEq, AV.agg.injEq, allK]
theorem loops_lawTunings : ∀ c, Tryz.f5.body = some c → LoopsOk Tryz.prog (addL (firstId (loopAt Tryz.f5 0)) ann_lawTunings_0 noL) Tryz.f5.ntmps c := loopsN fun i hi ann h => by
  have hn : loopN Tryz.f5 = 1 := by kernel_rfl
  rw [hn] at hi
  exact match i, hi, h with
    | 0, _, h => (Option.some.inj ((show (addL (firstId (loopAt Tryz.f5 0)) ann_lawTunings_0 noL) (firstId (loopAt Tryz.f5 0)) = some ann_lawTunings_0 from by kernel_rfl).symm.trans h)) ▸ loop_lawTunings_0
set_option maxHeartbeats 1000000 in
theorem sat_lawTunings : Sat Tryz.prog 5 ct_lawTunings := by
  refine sat_typed (C := C_Tu_6) (L := (addL (firstId (loopAt Tryz.f5 0)) ann_lawTunings_0 noL)) (wr := false) mixedOk Tryz.func5 C_Tu_6_ok (loops_lawTunings) (fun _ => by first | rfl | (simp [ownsOf, ownsOf.ownsL, enc, encV, encS])) fun x hp => ?_
  obtain ⟨(code : List (Ty.int .u8).den), (more : List (Ty.int .u8).den), _⟩ := x
  replace hp : bytesOk code ∧ bytesOk more := hp
  have htree : exFunc Tryz.prog C_Tu_6 false (addL (firstId (loopAt Tryz.f5 0)) ann_lawTunings_0 noL) Tryz.f5 (encA [.v (.seq (.int .u8)), .v (.seq (.int .u8))] (code, more, ())) = .ite (decide ((3000 : Int) < (↑code.length : Int)) || decide ((3000 : Int) < (↑more.length : Int))) (.leaf [.lit true]) (.need (bytesOk code) (.need (bytesOk more ∧ (0 : Int) ≤ (0 : Int)) (.need ((↑(List.length (A2U code).snd.snd) : Int) ≤ (9223372036854775807 : Int)) (.need (inK IntKind.i64 (a2At more (0 : Int) (40 : Int) + (1 : Int))) (.need ((↑(List.length (A2U code).snd.snd) : Int) ≤ (9223372036854775807 : Int)) (.ite ((fokF (A2U code) (a2At more (0 : Int) (40 : Int))).snd == (0 : Int)) (.ite ((fokF (A2U code) (a2At more (0 : Int) (40 : Int) + (1 : Int))).snd == (0 : Int)) (.ite (decide ((0 : Int) ≤ if okF (fokF (A2U code) (a2At more (0 : Int) (40 : Int))).fst.fst (fokF (A2U code) (a2At more (0 : Int) (40 : Int))).fst.snd = true ∧ okF (fokF (A2U code) (a2At more (0 : Int) (40 : Int) + (1 : Int))).fst.fst (fokF (A2U code) (a2At more (0 : Int) (40 : Int) + (1 : Int))).fst.snd = true then cmpF (fokF (A2U code) (a2At more (0 : Int) (40 : Int))).fst.fst (fokF (A2U code) (a2At more (0 : Int) (40 : Int))).fst.snd (fokF (A2U code) (a2At more (0 : Int) (40 : Int) + (1 : Int))).fst.fst (fokF (A2U code) (a2At more (0 : Int) (40 : Int) + (1 : Int))).fst.snd else (0 : Int))) (.leaf [.lit false]) (.need (((0 : Int) ≤ (0 : Int) ∧ (0 : Int) ≤ a2At more (0 : Int) (40 : Int)) ∧ a2At more (0 : Int) (40 : Int) ≤ (127 : Int) ∧ (↑(List.length (A2U code).snd.snd) : Int) ≤ (24 : Int)) (.ite (allK (A2U code) ((fokF (A2U code) (a2At more (0 : Int) (40 : Int))).snd == (0 : Int)) (a2At more (0 : Int) (40 : Int) - (0 : Int)).toNat (0 : Int)) (.need ((↑(List.length (A2U code).snd.snd) : Int) ≤ (9223372036854775807 : Int)) (.ite ((nearF (A2U code) (fokF (A2U code) (a2At more (0 : Int) (40 : Int))).fst.fst (fokF (A2U code) (a2At more (0 : Int) (40 : Int))).fst.snd).snd != (0 : Int)) (.leaf [.lit false]) (.ite ((nearF (A2U code) (fokF (A2U code) (a2At more (0 : Int) (40 : Int))).fst.fst (fokF (A2U code) (a2At more (0 : Int) (40 : Int))).fst.snd).fst != a2At more (0 : Int) (40 : Int)) (.leaf [.lit false]) (.need (inK IntKind.i64 (a2At more (0 : Int) (40 : Int) + (↑(List.length (A2U code).snd.snd) : Int))) (.need ((↑(List.length (A2U code).snd.snd) : Int) ≤ (9223372036854775807 : Int)) (.ite ((ratioF (A2U code) (a2At more (0 : Int) (40 : Int)) (a2At more (0 : Int) (40 : Int) + (↑(List.length (A2U code).snd.snd) : Int))).snd == (0 : Int)) (.ite (!((ratioF (A2U code) (a2At more (0 : Int) (40 : Int)) (a2At more (0 : Int) (40 : Int) + (↑(List.length (A2U code).snd.snd) : Int))).fst.fst == (A2U code).snd.fst.fst && (ratioF (A2U code) (a2At more (0 : Int) (40 : Int)) (a2At more (0 : Int) (40 : Int) + (↑(List.length (A2U code).snd.snd) : Int))).fst.snd == (A2U code).snd.fst.snd)) (.leaf [.lit false]) (.need ((↑(List.length (A2U code).snd.snd) : Int) ≤ (9223372036854775807 : Int)) (.ite ((mirF (A2U code)).snd == (0 : Int)) (.need ((↑(List.length (mirF (A2U code)).fst.snd.snd) : Int) ≤ (9223372036854775807 : Int)) (.ite ((mirF (mirF (A2U code)).fst).snd != (0 : Int)) (.leaf [.lit false]) (.need ((↑(List.length (mirF (mirF (A2U code)).fst).fst.snd.snd) : Int) ≤ (9223372036854775807 : Int)) (.ite (!decide (((mirF (mirF (A2U code)).fst).fst.fst.fst = (A2U code).fst.fst ∧ (mirF (mirF (A2U code)).fst).fst.fst.snd = (A2U code).fst.snd) ∧ ((mirF (mirF (A2U code)).fst).fst.snd.fst.fst = (A2U code).snd.fst.fst ∧ (mirF (mirF (A2U code)).fst).fst.snd.fst.snd = (A2U code).snd.fst.snd) ∧ (mirF (mirF (A2U code)).fst).fst.snd.snd = (A2U code).snd.snd)) (.leaf [.lit false]) (.need ((↑(List.length (mirF (A2U code)).fst.snd.snd) : Int) ≤ (9223372036854775807 : Int)) (.ite (!tuneF (mirF (A2U code)).fst) (.leaf [.lit false]) (.need ((↑(List.length (A2U code).snd.snd) : Int) ≤ (9223372036854775807 : Int)) (.need ((if tuneF (A2U code) = true then tuneT (A2U code) else []).length ≤ (1048576 : Nat)) (.ite ((tnI (if tuneF (A2U code) = true then tuneT (A2U code) else [])).snd) (.need ((↑(List.length (tnI (if tuneF (A2U code) = true then tuneT (A2U code) else [])).fst.snd.snd) : Int) ≤ (9223372036854775807 : Int)) (.leaf [.bool (decide (((tnI (if tuneF (A2U code) = true then tuneT (A2U code) else [])).fst.fst.fst = (A2U code).fst.fst ∧ (tnI (if tuneF (A2U code) = true then tuneT (A2U code) else [])).fst.fst.snd = (A2U code).fst.snd) ∧ ((tnI (if tuneF (A2U code) = true then tuneT (A2U code) else [])).fst.snd.fst.fst = (A2U code).snd.fst.fst ∧ (tnI (if tuneF (A2U code) = true then tuneT (A2U code) else [])).fst.snd.fst.snd = (A2U code).snd.fst.snd) ∧ (tnI (if tuneF (A2U code) = true then tuneT (A2U code) else [])).fst.snd.snd = (A2U code).snd.snd))])) (.leaf [.lit false])))))))))) (.need ((↑(List.length (A2U code).snd.snd) : Int) ≤ (9223372036854775807 : Int)) (.need ((if tuneF (A2U code) = true then tuneT (A2U code) else []).length ≤ (1048576 : Nat)) (.ite ((tnI (if tuneF (A2U code) = true then tuneT (A2U code) else [])).snd) (.need ((↑(List.length (tnI (if tuneF (A2U code) = true then tuneT (A2U code) else [])).fst.snd.snd) : Int) ≤ (9223372036854775807 : Int)) (.leaf [.bool (decide (((tnI (if tuneF (A2U code) = true then tuneT (A2U code) else [])).fst.fst.fst = (A2U code).fst.fst ∧ (tnI (if tuneF (A2U code) = true then tuneT (A2U code) else [])).fst.fst.snd = (A2U code).fst.snd) ∧ ((tnI (if tuneF (A2U code) = true then tuneT (A2U code) else [])).fst.snd.fst.fst = (A2U code).snd.fst.fst ∧ (tnI (if tuneF (A2U code) = true then tuneT (A2U code) else [])).fst.snd.fst.snd = (A2U code).snd.fst.snd) ∧ (tnI (if tuneF (A2U code) = true then tuneT (A2U code) else [])).fst.snd.snd = (A2U code).snd.snd))])) (.leaf [.lit false]))))))) (.need ((↑(List.length (A2U code).snd.snd) : Int) ≤ (9223372036854775807 : Int)) (.ite ((mirF (A2U code)).snd == (0 : Int)) (.need ((↑(List.length (mirF (A2U code)).fst.snd.snd) : Int) ≤ (9223372036854775807 : Int)) (.ite ((mirF (mirF (A2U code)).fst).snd != (0 : Int)) (.leaf [.lit false]) (.need ((↑(List.length (mirF (mirF (A2U code)).fst).fst.snd.snd) : Int) ≤ (9223372036854775807 : Int)) (.ite (!decide (((mirF (mirF (A2U code)).fst).fst.fst.fst = (A2U code).fst.fst ∧ (mirF (mirF (A2U code)).fst).fst.fst.snd = (A2U code).fst.snd) ∧ ((mirF (mirF (A2U code)).fst).fst.snd.fst.fst = (A2U code).snd.fst.fst ∧ (mirF (mirF (A2U code)).fst).fst.snd.fst.snd = (A2U code).snd.fst.snd) ∧ (mirF (mirF (A2U code)).fst).fst.snd.snd = (A2U code).snd.snd)) (.leaf [.lit false]) (.need ((↑(List.length (mirF (A2U code)).fst.snd.snd) : Int) ≤ (9223372036854775807 : Int)) (.ite (!tuneF (mirF (A2U code)).fst) (.leaf [.lit false]) (.need ((↑(List.length (A2U code).snd.snd) : Int) ≤ (9223372036854775807 : Int)) (.need ((if tuneF (A2U code) = true then tuneT (A2U code) else []).length ≤ (1048576 : Nat)) (.ite ((tnI (if tuneF (A2U code) = true then tuneT (A2U code) else [])).snd) (.need ((↑(List.length (tnI (if tuneF (A2U code) = true then tuneT (A2U code) else [])).fst.snd.snd) : Int) ≤ (9223372036854775807 : Int)) (.leaf [.bool (decide (((tnI (if tuneF (A2U code) = true then tuneT (A2U code) else [])).fst.fst.fst = (A2U code).fst.fst ∧ (tnI (if tuneF (A2U code) = true then tuneT (A2U code) else [])).fst.fst.snd = (A2U code).fst.snd) ∧ ((tnI (if tuneF (A2U code) = true then tuneT (A2U code) else [])).fst.snd.fst.fst = (A2U code).snd.fst.fst ∧ (tnI (if tuneF (A2U code) = true then tuneT (A2U code) else [])).fst.snd.fst.snd = (A2U code).snd.fst.snd) ∧ (tnI (if tuneF (A2U code) = true then tuneT (A2U code) else [])).fst.snd.snd = (A2U code).snd.snd))])) (.leaf [.lit false])))))))))) (.need ((↑(List.length (A2U code).snd.snd) : Int) ≤ (9223372036854775807 : Int)) (.need ((if tuneF (A2U code) = true then tuneT (A2U code) else []).length ≤ (1048576 : Nat)) (.ite ((tnI (if tuneF (A2U code) = true then tuneT (A2U code) else [])).snd) (.need ((↑(List.length (tnI (if tuneF (A2U code) = true then tuneT (A2U code) else [])).fst.snd.snd) : Int) ≤ (9223372036854775807 : Int)) (.leaf [.bool (decide (((tnI (if tuneF (A2U code) = true then tuneT (A2U code) else [])).fst.fst.fst = (A2U code).fst.fst ∧ (tnI (if tuneF (A2U code) = true then tuneT (A2U code) else [])).fst.fst.snd = (A2U code).fst.snd) ∧ ((tnI (if tuneF (A2U code) = true then tuneT (A2U code) else [])).fst.snd.fst.fst = (A2U code).snd.fst.fst ∧ (tnI (if tuneF (A2U code) = true then tuneT (A2U code) else [])).fst.snd.fst.snd = (A2U code).snd.fst.snd) ∧ (tnI (if tuneF (A2U code) = true then tuneT (A2U code) else [])).fst.snd.snd = (A2U code).snd.snd))])) (.leaf [.lit false])))))))))))) (.need (inK IntKind.i64 (a2At more (0 : Int) (40 : Int) + (↑(List.length (A2U code).snd.snd) : Int))) (.need ((↑(List.length (A2U code).snd.snd) : Int) ≤ (9223372036854775807 : Int)) (.ite ((ratioF (A2U code) (a2At more (0 : Int) (40 : Int)) (a2At more (0 : Int) (40 : Int) + (↑(List.length (A2U code).snd.snd) : Int))).snd == (0 : Int)) (.ite (!((ratioF (A2U code) (a2At more (0 : Int) (40 : Int)) (a2At more (0 : Int) (40 : Int) + (↑(List.length (A2U code).snd.snd) : Int))).fst.fst == (A2U code).snd.fst.fst && (ratioF (A2U code) (a2At more (0 : Int) (40 : Int)) (a2At more (0 : Int) (40 : Int) + (↑(List.length (A2U code).snd.snd) : Int))).fst.snd == (A2U code).snd.fst.snd)) (.leaf [.lit false]) (.need ((↑(List.length (A2U code).snd.snd) : Int) ≤ (9223372036854775807 : Int)) (.ite ((mirF (A2U code)).snd == (0 : Int)) (.need ((↑(List.length (mirF (A2U code)).fst.snd.snd) : Int) ≤ (9223372036854775807 : Int)) (.ite ((mirF (mirF (A2U code)).fst).snd != (0 : Int)) (.leaf [.lit false]) (.need ((↑(List.length (mirF (mirF (A2U code)).fst).fst.snd.snd) : Int) ≤ (9223372036854775807 : Int)) (.ite (!decide (((mirF (mirF (A2U code)).fst).fst.fst.fst = (A2U code).fst.fst ∧ (mirF (mirF (A2U code)).fst).fst.fst.snd = (A2U code).fst.snd) ∧ ((mirF (mirF (A2U code)).fst).fst.snd.fst.fst = (A2U code).snd.fst.fst ∧ (mirF (mirF (A2U code)).fst).fst.snd.fst.snd = (A2U code).snd.fst.snd) ∧ (mirF (mirF (A2U code)).fst).fst.snd.snd = (A2U code).snd.snd)) (.leaf [.lit false]) (.need ((↑(List.length (mirF (A2U code)).fst.snd.snd) : Int) ≤ (9223372036854775807 : Int)) (.ite (!tuneF (mirF (A2U code)).fst) (.leaf [.lit false]) (.need ((↑(List.length (A2U code).snd.snd) : Int) ≤ (9223372036854775807 : Int)) (.need ((if tuneF (A2U code) = true then tuneT (A2U code) else []).length ≤ (1048576 : Nat)) (.ite ((tnI (if tuneF (A2U code) = true then tuneT (A2U code) else [])).snd) (.need ((↑(List.length (tnI (if tuneF (A2U code) = true then tuneT (A2U code) else [])).fst.snd.snd) : Int) ≤ (9223372036854775807 : Int)) (.leaf [.bool (decide (((tnI (if tuneF (A2U code) = true then tuneT (A2U code) else [])).fst.fst.fst = (A2U code).fst.fst ∧ (tnI (if tuneF (A2U code) = true then tuneT (A2U code) else [])).fst.fst.snd = (A2U code).fst.snd) ∧ ((tnI (if tuneF (A2U code) = true then tuneT (A2U code) else [])).fst.snd.fst.fst = (A2U code).snd.fst.fst ∧ (tnI (if tuneF (A2U code) = true then tuneT (A2U code) else [])).fst.snd.fst.snd = (A2U code).snd.fst.snd) ∧ (tnI (if tuneF (A2U code) = true then tuneT (A2U code) else [])).fst.snd.snd = (A2U code).snd.snd))])) (.leaf [.lit false])))))))))) (.need ((↑(List.length (A2U code).snd.snd) : Int) ≤ (9223372036854775807 : Int)) (.need ((if tuneF (A2U code) = true then tuneT (A2U code) else []).length ≤ (1048576 : Nat)) (.ite ((tnI (if tuneF (A2U code) = true then tuneT (A2U code) else [])).snd) (.need ((↑(List.length (tnI (if tuneF (A2U code) = true then tuneT (A2U code) else [])).fst.snd.snd) : Int) ≤ (9223372036854775807 : Int)) (.leaf [.bool (decide (((tnI (if tuneF (A2U code) = true then tuneT (A2U code) else [])).fst.fst.fst = (A2U code).fst.fst ∧ (tnI (if tuneF (A2U code) = true then tuneT (A2U code) else [])).fst.fst.snd = (A2U code).fst.snd) ∧ ((tnI (if tuneF (A2U code) = true then tuneT (A2U code) else [])).fst.snd.fst.fst = (A2U code).snd.fst.fst ∧ (tnI (if tuneF (A2U code) = true then tuneT (A2U code) else [])).fst.snd.fst.snd = (A2U code).snd.fst.snd) ∧ (tnI (if tuneF (A2U code) = true then tuneT (A2U code) else [])).fst.snd.snd = (A2U code).snd.snd))])) (.leaf [.lit false]))))))) (.need ((↑(List.length (A2U code).snd.snd) : Int) ≤ (9223372036854775807 : Int)) (.ite ((mirF (A2U code)).snd == (0 : Int)) (.need ((↑(List.length (mirF (A2U code)).fst.snd.snd) : Int) ≤ (9223372036854775807 : Int)) (.ite ((mirF (mirF (A2U code)).fst).snd != (0 : Int)) (.leaf [.lit false]) (.need ((↑(List.length (mirF (mirF (A2U code)).fst).fst.snd.snd) : Int) ≤ (9223372036854775807 : Int)) (.ite (!decide (((mirF (mirF (A2U code)).fst).fst.fst.fst = (A2U code).fst.fst ∧ (mirF (mirF (A2U code)).fst).fst.fst.snd = (A2U code).fst.snd) ∧ ((mirF (mirF (A2U code)).fst).fst.snd.fst.fst = (A2U code).snd.fst.fst ∧ (mirF (mirF (A2U code)).fst).fst.snd.fst.snd = (A2U code).snd.fst.snd) ∧ (mirF (mirF (A2U code)).fst).fst.snd.snd = (A2U code).snd.snd)) (.leaf [.lit false]) (.need ((↑(List.length (mirF (A2U code)).fst.snd.snd) : Int) ≤ (9223372036854775807 : Int)) (.ite (!tuneF (mirF (A2U code)).fst) (.leaf [.lit false]) (.need ((↑(List.length (A2U code).snd.snd) : Int) ≤ (9223372036854775807 : Int)) (.need ((if tuneF (A2U code) = true then tuneT (A2U code) else []).length ≤ (1048576 : Nat)) (.ite ((tnI (if tuneF (A2U code) = true then tuneT (A2U code) else [])).snd) (.need ((↑(List.length (tnI (if tuneF (A2U code) = true then tuneT (A2U code) else [])).fst.snd.snd) : Int) ≤ (9223372036854775807 : Int)) (.leaf [.bool (decide (((tnI (if tuneF (A2U code) = true then tuneT (A2U code) else [])).fst.fst.fst = (A2U code).fst.fst ∧ (tnI (if tuneF (A2U code) = true then tuneT (A2U code) else [])).fst.fst.snd = (A2U code).fst.snd) ∧ ((tnI (if tuneF (A2U code) = true then tuneT (A2U code) else [])).fst.snd.fst.fst = (A2U code).snd.fst.fst ∧ (tnI (if tuneF (A2U code) = true then tuneT (A2U code) else [])).fst.snd.fst.snd = (A2U code).snd.fst.snd) ∧ (tnI (if tuneF (A2U code) = true then tuneT (A2U code) else [])).fst.snd.snd = (A2U code).snd.snd))])) (.leaf [.lit false])))))))))) (.need ((↑(List.length (A2U code).snd.snd) : Int) ≤ (9223372036854775807 : Int)) (.need ((if tuneF (A2U code) = true then tuneT (A2U code) else []).length ≤ (1048576 : Nat)) (.ite ((tnI (if tuneF (A2U code) = true then tuneT (A2U code) else [])).snd) (.need ((↑(List.length (tnI (if tuneF (A2U code) = true then tuneT (A2U code) else [])).fst.snd.snd) : Int) ≤ (9223372036854775807 : Int)) (.leaf [.bool (decide (((tnI (if tuneF (A2U code) = true then tuneT (A2U code) else [])).fst.fst.fst = (A2U code).fst.fst ∧ (tnI (if tuneF (A2U code) = true then tuneT (A2U code) else [])).fst.fst.snd = (A2U code).fst.snd) ∧ ((tnI (if tuneF (A2U code) = true then tuneT (A2U code) else [])).fst.snd.fst.fst = (A2U code).snd.fst.fst ∧ (tnI (if tuneF (A2U code) = true then tuneT (A2U code) else [])).fst.snd.fst.snd = (A2U code).snd.fst.snd) ∧ (tnI (if tuneF (A2U code) = true then tuneT (A2U code) else [])).fst.snd.snd = (A2U code).snd.snd))])) (.leaf [.lit false])))))))))))) (.need (((0 : Int) ≤ (0 : Int) ∧ (0 : Int) ≤ a2At more (0 : Int) (40 : Int)) ∧ a2At more (0 : Int) (40 : Int) ≤ (127 : Int) ∧ (↑(List.length (A2U code).snd.snd) : Int) ≤ (24 : Int)) (.ite (allK (A2U code) ((fokF (A2U code) (a2At more (0 : Int) (40 : Int))).snd == (0 : Int)) (a2At more (0 : Int) (40 : Int) - (0 : Int)).toNat (0 : Int)) (.need ((↑(List.length (A2U code).snd.snd) : Int) ≤ (9223372036854775807 : Int)) (.ite ((nearF (A2U code) (fokF (A2U code) (a2At more (0 : Int) (40 : Int))).fst.fst (fokF (A2U code) (a2At more (0 : Int) (40 : Int))).fst.snd).snd != (0 : Int)) (.leaf [.lit false]) (.ite ((nearF (A2U code) (fokF (A2U code) (a2At more (0 : Int) (40 : Int))).fst.fst (fokF (A2U code) (a2At more (0 : Int) (40 : Int))).fst.snd).fst != a2At more (0 : Int) (40 : Int)) (.leaf [.lit false]) (.need (inK IntKind.i64 (a2At more (0 : Int) (40 : Int) + (↑(List.length (A2U code).snd.snd) : Int))) (.need ((↑(List.length (A2U code).snd.snd) : Int) ≤ (9223372036854775807 : Int)) (.ite ((ratioF (A2U code) (a2At more (0 : Int) (40 : Int)) (a2At more (0 : Int) (40 : Int) + (↑(List.length (A2U code).snd.snd) : Int))).snd == (0 : Int)) (.ite (!((ratioF (A2U code) (a2At more (0 : Int) (40 : Int)) (a2At more (0 : Int) (40 : Int) + (↑(List.length (A2U code).snd.snd) : Int))).fst.fst == (A2U code).snd.fst.fst && (ratioF (A2U code) (a2At more (0 : Int) (40 : Int)) (a2At more (0 : Int) (40 : Int) + (↑(List.length (A2U code).snd.snd) : Int))).fst.snd == (A2U code).snd.fst.snd)) (.leaf [.lit false]) (.need ((↑(List.length (A2U code).snd.snd) : Int) ≤ (9223372036854775807 : Int)) (.ite ((mirF (A2U code)).snd == (0 : Int)) (.need ((↑(List.length (mirF (A2U code)).fst.snd.snd) : Int) ≤ (9223372036854775807 : Int)) (.ite ((mirF (mirF (A2U code)).fst).snd != (0 : Int)) (.leaf [.lit false]) (.need ((↑(List.length (mirF (mirF (A2U code)).fst).fst.snd.snd) : Int) ≤ (9223372036854775807 : Int)) (.ite (!decide (((mirF (mirF (A2U code)).fst).fst.fst.fst = (A2U code).fst.fst ∧ (mirF (mirF (A2U code)).fst).fst.fst.snd = (A2U code).fst.snd) ∧ ((mirF (mirF (A2U code)).fst).fst.snd.fst.fst = (A2U code).snd.fst.fst ∧ (mirF (mirF (A2U code)).fst).fst.snd.fst.snd = (A2U code).snd.fst.snd) ∧ (mirF (mirF (A2U code)).fst).fst.snd.snd = (A2U code).snd.snd)) (.leaf [.lit false]) (.need ((↑(List.length (mirF (A2U code)).fst.snd.snd) : Int) ≤ (9223372036854775807 : Int)) (.ite (!tuneF (mirF (A2U code)).fst) (.leaf [.lit false]) (.need ((↑(List.length (A2U code).snd.snd) : Int) ≤ (9223372036854775807 : Int)) (.need ((if tuneF (A2U code) = true then tuneT (A2U code) else []).length ≤ (1048576 : Nat)) (.ite ((tnI (if tuneF (A2U code) = true then tuneT (A2U code) else [])).snd) (.need ((↑(List.length (tnI (if tuneF (A2U code) = true then tuneT (A2U code) else [])).fst.snd.snd) : Int) ≤ (9223372036854775807 : Int)) (.leaf [.bool (decide (((tnI (if tuneF (A2U code) = true then tuneT (A2U code) else [])).fst.fst.fst = (A2U code).fst.fst ∧ (tnI (if tuneF (A2U code) = true then tuneT (A2U code) else [])).fst.fst.snd = (A2U code).fst.snd) ∧ ((tnI (if tuneF (A2U code) = true then tuneT (A2U code) else [])).fst.snd.fst.fst = (A2U code).snd.fst.fst ∧ (tnI (if tuneF (A2U code) = true then tuneT (A2U code) else [])).fst.snd.fst.snd = (A2U code).snd.fst.snd) ∧ (tnI (if tuneF (A2U code) = true then tuneT (A2U code) else [])).fst.snd.snd = (A2U code).snd.snd))])) (.leaf [.lit false])))))))))) (.need ((↑(List.length (A2U code).snd.snd) : Int) ≤ (9223372036854775807 : Int)) (.need ((if tuneF (A2U code) = true then tuneT (A2U code) else []).length ≤ (1048576 : Nat)) (.ite ((tnI (if tuneF (A2U code) = true then tuneT (A2U code) else [])).snd) (.need ((↑(List.length (tnI (if tuneF (A2U code) = true then tuneT (A2U code) else [])).fst.snd.snd) : Int) ≤ (9223372036854775807 : Int)) (.leaf [.bool (decide (((tnI (if tuneF (A2U code) = true then tuneT (A2U code) else [])).fst.fst.fst = (A2U code).fst.fst ∧ (tnI (if tuneF (A2U code) = true then tuneT (A2U code) else [])).fst.fst.snd = (A2U code).fst.snd) ∧ ((tnI (if tuneF (A2U code) = true then tuneT (A2U code) else [])).fst.snd.fst.fst = (A2U code).snd.fst.fst ∧ (tnI (if tuneF (A2U code) = true then tuneT (A2U code) else [])).fst.snd.fst.snd = (A2U code).snd.fst.snd) ∧ (tnI (if tuneF (A2U code) = true then tuneT (A2U code) else [])).fst.snd.snd = (A2U code).snd.snd))])) (.leaf [.lit false]))))))) (.need ((↑(List.length (A2U code).snd.snd) : Int) ≤ (9223372036854775807 : Int)) (.ite ((mirF (A2U code)).snd == (0 : Int)) (.need ((↑(List.length (mirF (A2U code)).fst.snd.snd) : Int) ≤ (9223372036854775807 : Int)) (.ite ((mirF (mirF (A2U code)).fst).snd != (0 : Int)) (.leaf [.lit false]) (.need ((↑(List.length (mirF (mirF (A2U code)).fst).fst.snd.snd) : Int) ≤ (9223372036854775807 : Int)) (.ite (!decide (((mirF (mirF (A2U code)).fst).fst.fst.fst = (A2U code).fst.fst ∧ (mirF (mirF (A2U code)).fst).fst.fst.snd = (A2U code).fst.snd) ∧ ((mirF (mirF (A2U code)).fst).fst.snd.fst.fst = (A2U code).snd.fst.fst ∧ (mirF (mirF (A2U code)).fst).fst.snd.fst.snd = (A2U code).snd.fst.snd) ∧ (mirF (mirF (A2U code)).fst).fst.snd.snd = (A2U code).snd.snd)) (.leaf [.lit false]) (.need ((↑(List.length (mirF (A2U code)).fst.snd.snd) : Int) ≤ (9223372036854775807 : Int)) (.ite (!tuneF (mirF (A2U code)).fst) (.leaf [.lit false]) (.need ((↑(List.length (A2U code).snd.snd) : Int) ≤ (9223372036854775807 : Int)) (.need ((if tuneF (A2U code) = true then tuneT (A2U code) else []).length ≤ (1048576 : Nat)) (.ite ((tnI (if tuneF (A2U code) = true then tuneT (A2U code) else [])).snd) (.need ((↑(List.length (tnI (if tuneF (A2U code) = true then tuneT (A2U code) else [])).fst.snd.snd) : Int) ≤ (9223372036854775807 : Int)) (.leaf [.bool (decide (((tnI (if tuneF (A2U code) = true then tuneT (A2U code) else [])).fst.fst.fst = (A2U code).fst.fst ∧ (tnI (if tuneF (A2U code) = true then tuneT (A2U code) else [])).fst.fst.snd = (A2U code).fst.snd) ∧ ((tnI (if tuneF (A2U code) = true then tuneT (A2U code) else [])).fst.snd.fst.fst = (A2U code).snd.fst.fst ∧ (tnI (if tuneF (A2U code) = true then tuneT (A2U code) else [])).fst.snd.fst.snd = (A2U code).snd.fst.snd) ∧ (tnI (if tuneF (A2U code) = true then tuneT (A2U code) else [])).fst.snd.snd = (A2U code).snd.snd))])) (.leaf [.lit false])))))))))) (.need ((↑(List.length (A2U code).snd.snd) : Int) ≤ (9223372036854775807 : Int)) (.need ((if tuneF (A2U code) = true then tuneT (A2U code) else []).length ≤ (1048576 : Nat)) (.ite ((tnI (if tuneF (A2U code) = true then tuneT (A2U code) else [])).snd) (.need ((↑(List.length (tnI (if tuneF (A2U code) = true then tuneT (A2U code) else [])).fst.snd.snd) : Int) ≤ (9223372036854775807 : Int)) (.leaf [.bool (decide (((tnI (if tuneF (A2U code) = true then tuneT (A2U code) else [])).fst.fst.fst = (A2U code).fst.fst ∧ (tnI (if tuneF (A2U code) = true then tuneT (A2U code) else [])).fst.fst.snd = (A2U code).fst.snd) ∧ ((tnI (if tuneF (A2U code) = true then tuneT (A2U code) else [])).fst.snd.fst.fst = (A2U code).snd.fst.fst ∧ (tnI (if tuneF (A2U code) = true then tuneT (A2U code) else [])).fst.snd.fst.snd = (A2U code).snd.fst.snd) ∧ (tnI (if tuneF (A2U code) = true then tuneT (A2U code) else [])).fst.snd.snd = (A2U code).snd.snd))])) (.leaf [.lit false])))))))))))) (.need (inK IntKind.i64 (a2At more (0 : Int) (40 : Int) + (↑(List.length (A2U code).snd.snd) : Int))) (.need ((↑(List.length (A2U code).snd.snd) : Int) ≤ (9223372036854775807 : Int)) (.ite ((ratioF (A2U code) (a2At more (0 : Int) (40 : Int)) (a2At more (0 : Int) (40 : Int) + (↑(List.length (A2U code).snd.snd) : Int))).snd == (0 : Int)) (.ite (!((ratioF (A2U code) (a2At more (0 : Int) (40 : Int)) (a2At more (0 : Int) (40 : Int) + (↑(List.length (A2U code).snd.snd) : Int))).fst.fst == (A2U code).snd.fst.fst && (ratioF (A2U code) (a2At more (0 : Int) (40 : Int)) (a2At more (0 : Int) (40 : Int) + (↑(List.length (A2U code).snd.snd) : Int))).fst.snd == (A2U code).snd.fst.snd)) (.leaf [.lit false]) (.need ((↑(List.length (A2U code).snd.snd) : Int) ≤ (9223372036854775807 : Int)) (.ite ((mirF (A2U code)).snd == (0 : Int)) (.need ((↑(List.length (mirF (A2U code)).fst.snd.snd) : Int) ≤ (9223372036854775807 : Int)) (.ite ((mirF (mirF (A2U code)).fst).snd != (0 : Int)) (.leaf [.lit false]) (.need ((↑(List.length (mirF (mirF (A2U code)).fst).fst.snd.snd) : Int) ≤ (9223372036854775807 : Int)) (.ite (!decide (((mirF (mirF (A2U code)).fst).fst.fst.fst = (A2U code).fst.fst ∧ (mirF (mirF (A2U code)).fst).fst.fst.snd = (A2U code).fst.snd) ∧ ((mirF (mirF (A2U code)).fst).fst.snd.fst.fst = (A2U code).snd.fst.fst ∧ (mirF (mirF (A2U code)).fst).fst.snd.fst.snd = (A2U code).snd.fst.snd) ∧ (mirF (mirF (A2U code)).fst).fst.snd.snd = (A2U code).snd.snd)) (.leaf [.lit false]) (.need ((↑(List.length (mirF (A2U code)).fst.snd.snd) : Int) ≤ (9223372036854775807 : Int)) (.ite (!tuneF (mirF (A2U code)).fst) (.leaf [.lit false]) (.need ((↑(List.length (A2U code).snd.snd) : Int) ≤ (9223372036854775807 : Int)) (.need ((if tuneF (A2U code) = true then tuneT (A2U code) else []).length ≤ (1048576 : Nat)) (.ite ((tnI (if tuneF (A2U code) = true then tuneT (A2U code) else [])).snd) (.need ((↑(List.length (tnI (if tuneF (A2U code) = true then tuneT (A2U code) else [])).fst.snd.snd) : Int) ≤ (9223372036854775807 : Int)) (.leaf [.bool (decide (((tnI (if tuneF (A2U code) = true then tuneT (A2U code) else [])).fst.fst.fst = (A2U code).fst.fst ∧ (tnI (if tuneF (A2U code) = true then tuneT (A2U code) else [])).fst.fst.snd = (A2U code).fst.snd) ∧ ((tnI (if tuneF (A2U code) = true then tuneT (A2U code) else [])).fst.snd.fst.fst = (A2U code).snd.fst.fst ∧ (tnI (if tuneF (A2U code) = true then tuneT (A2U code) else [])).fst.snd.fst.snd = (A2U code).snd.fst.snd) ∧ (tnI (if tuneF (A2U code) = true then tuneT (A2U code) else [])).fst.snd.snd = (A2U code).snd.snd))])) (.leaf [.lit false])))))))))) (.need ((↑(List.length (A2U code).snd.snd) : Int) ≤ (9223372036854775807 : Int)) (.need ((if tuneF (A2U code) = true then tuneT (A2U code) else []).length ≤ (1048576 : Nat)) (.ite ((tnI (if tuneF (A2U code) = true then tuneT (A2U code) else [])).snd) (.need ((↑(List.length (tnI (if tuneF (A2U code) = true then tuneT (A2U code) else [])).fst.snd.snd) : Int) ≤ (9223372036854775807 : Int)) (.leaf [.bool (decide (((tnI (if tuneF (A2U code) = true then tuneT (A2U code) else [])).fst.fst.fst = (A2U code).fst.fst ∧ (tnI (if tuneF (A2U code) = true then tuneT (A2U code) else [])).fst.fst.snd = (A2U code).fst.snd) ∧ ((tnI (if tuneF (A2U code) = true then tuneT (A2U code) else [])).fst.snd.fst.fst = (A2U code).snd.fst.fst ∧ (tnI (if tuneF (A2U code) = true then tuneT (A2U code) else [])).fst.snd.fst.snd = (A2U code).snd.fst.snd) ∧ (tnI (if tuneF (A2U code) = true then tuneT (A2U code) else [])).fst.snd.snd = (A2U code).snd.snd))])) (.leaf [.lit false]))))))) (.need ((↑(List.length (A2U code).snd.snd) : Int) ≤ (9223372036854775807 : Int)) (.ite ((mirF (A2U code)).snd == (0 : Int)) (.need ((↑(List.length (mirF (A2U code)).fst.snd.snd) : Int) ≤ (9223372036854775807 : Int)) (.ite ((mirF (mirF (A2U code)).fst).snd != (0 : Int)) (.leaf [.lit false]) (.need ((↑(List.length (mirF (mirF (A2U code)).fst).fst.snd.snd) : Int) ≤ (9223372036854775807 : Int)) (.ite (!decide (((mirF (mirF (A2U code)).fst).fst.fst.fst = (A2U code).fst.fst ∧ (mirF (mirF (A2U code)).fst).fst.fst.snd = (A2U code).fst.snd) ∧ ((mirF (mirF (A2U code)).fst).fst.snd.fst.fst = (A2U code).snd.fst.fst ∧ (mirF (mirF (A2U code)).fst).fst.snd.fst.snd = (A2U code).snd.fst.snd) ∧ (mirF (mirF (A2U code)).fst).fst.snd.snd = (A2U code).snd.snd)) (.leaf [.lit false]) (.need ((↑(List.length (mirF (A2U code)).fst.snd.snd) : Int) ≤ (9223372036854775807 : Int)) (.ite (!tuneF (mirF (A2U code)).fst) (.leaf [.lit false]) (.need ((↑(List.length (A2U code).snd.snd) : Int) ≤ (9223372036854775807 : Int)) (.need ((if tuneF (A2U code) = true then tuneT (A2U code) else []).length ≤ (1048576 : Nat)) (.ite ((tnI (if tuneF (A2U code) = true then tuneT (A2U code) else [])).snd) (.need ((↑(List.length (tnI (if tuneF (A2U code) = true then tuneT (A2U code) else [])).fst.snd.snd) : Int) ≤ (9223372036854775807 : Int)) (.leaf [.bool (decide (((tnI (if tuneF (A2U code) = true then tuneT (A2U code) else [])).fst.fst.fst = (A2U code).fst.fst ∧ (tnI (if tuneF (A2U code) = true then tuneT (A2U code) else [])).fst.fst.snd = (A2U code).fst.snd) ∧ ((tnI (if tuneF (A2U code) = true then tuneT (A2U code) else [])).fst.snd.fst.fst = (A2U code).snd.fst.fst ∧ (tnI (if tuneF (A2U code) = true then tuneT (A2U code) else [])).fst.snd.fst.snd = (A2U code).snd.fst.snd) ∧ (tnI (if tuneF (A2U code) = true then tuneT (A2U code) else [])).fst.snd.snd = (A2U code).snd.snd))])) (.leaf [.lit false])))))))))) (.need ((↑(List.length (A2U code).snd.snd) : Int) ≤ (9223372036854775807 : Int)) (.need ((if tuneF (A2U code) = true then tuneT (A2U code) else []).length ≤ (1048576 : Nat)) (.ite ((tnI (if tuneF (A2U code) = true then tuneT (A2U code) else [])).snd) (.need ((↑(List.length (tnI (if tuneF (A2U code) = true then tuneT (A2U code) else [])).fst.snd.snd) : Int) ≤ (9223372036854775807 : Int)) (.leaf [.bool (decide (((tnI (if tuneF (A2U code) = true then tuneT (A2U code) else [])).fst.fst.fst = (A2U code).fst.fst ∧ (tnI (if tuneF (A2U code) = true then tuneT (A2U code) else [])).fst.fst.snd = (A2U code).fst.snd) ∧ ((tnI (if tuneF (A2U code) = true then tuneT (A2U code) else [])).fst.snd.fst.fst = (A2U code).snd.fst.fst ∧ (tnI (if tuneF (A2U code) = true then tuneT (A2U code) else [])).fst.snd.fst.snd = (A2U code).snd.fst.snd) ∧ (tnI (if tuneF (A2U code) = true then tuneT (A2U code) else [])).fst.snd.snd = (A2U code).snd.snd))])) (.leaf [.lit false])))))))))))) (.need (((0 : Int) ≤ (0 : Int) ∧ (0 : Int) ≤ a2At more (0 : Int) (40 : Int)) ∧ a2At more (0 : Int) (40 : Int) ≤ (127 : Int) ∧ (↑(List.length (A2U code).snd.snd) : Int) ≤ (24 : Int)) (.ite (allK (A2U code) ((fokF (A2U code) (a2At more (0 : Int) (40 : Int))).snd == (0 : Int)) (a2At more (0 : Int) (40 : Int) - (0 : Int)).toNat (0 : Int)) (.need ((↑(List.length (A2U code).snd.snd) : Int) ≤ (9223372036854775807 : Int)) (.ite ((nearF (A2U code) (fokF (A2U code) (a2At more (0 : Int) (40 : Int))).fst.fst (fokF (A2U code) (a2At more (0 : Int) (40 : Int))).fst.snd).snd != (0 : Int)) (.leaf [.lit false]) (.ite ((nearF (A2U code) (fokF (A2U code) (a2At more (0 : Int) (40 : Int))).fst.fst (fokF (A2U code) (a2At more (0 : Int) (40 : Int))).fst.snd).fst != a2At more (0 : Int) (40 : Int)) (.leaf [.lit false]) (.need (inK IntKind.i64 (a2At more (0 : Int) (40 : Int) + (↑(List.length (A2U code).snd.snd) : Int))) (.need ((↑(List.length (A2U code).snd.snd) : Int) ≤ (9223372036854775807 : Int)) (.ite ((ratioF (A2U code) (a2At more (0 : Int) (40 : Int)) (a2At more (0 : Int) (40 : Int) + (↑(List.length (A2U code).snd.snd) : Int))).snd == (0 : Int)) (.ite (!((ratioF (A2U code) (a2At more (0 : Int) (40 : Int)) (a2At more (0 : Int) (40 : Int) + (↑(List.length (A2U code).snd.snd) : Int))).fst.fst == (A2U code).snd.fst.fst && (ratioF (A2U code) (a2At more (0 : Int) (40 : Int)) (a2At more (0 : Int) (40 : Int) + (↑(List.length (A2U code).snd.snd) : Int))).fst.snd == (A2U code).snd.fst.snd)) (.leaf [.lit false]) (.need ((↑(List.length (A2U code).snd.snd) : Int) ≤ (9223372036854775807 : Int)) (.ite ((mirF (A2U code)).snd == (0 : Int)) (.need ((↑(List.length (mirF (A2U code)).fst.snd.snd) : Int) ≤ (9223372036854775807 : Int)) (.ite ((mirF (mirF (A2U code)).fst).snd != (0 : Int)) (.leaf [.lit false]) (.need ((↑(List.length (mirF (mirF (A2U code)).fst).fst.snd.snd) : Int) ≤ (9223372036854775807 : Int)) (.ite (!decide (((mirF (mirF (A2U code)).fst).fst.fst.fst = (A2U code).fst.fst ∧ (mirF (mirF (A2U code)).fst).fst.fst.snd = (A2U code).fst.snd) ∧ ((mirF (mirF (A2U code)).fst).fst.snd.fst.fst = (A2U code).snd.fst.fst ∧ (mirF (mirF (A2U code)).fst).fst.snd.fst.snd = (A2U code).snd.fst.snd) ∧ (mirF (mirF (A2U code)).fst).fst.snd.snd = (A2U code).snd.snd)) (.leaf [.lit false]) (.need ((↑(List.length (mirF (A2U code)).fst.snd.snd) : Int) ≤ (9223372036854775807 : Int)) (.ite (!tuneF (mirF (A2U code)).fst) (.leaf [.lit false]) (.need ((↑(List.length (A2U code).snd.snd) : Int) ≤ (9223372036854775807 : Int)) (.need ((if tuneF (A2U code) = true then tuneT (A2U code) else []).length ≤ (1048576 : Nat)) (.ite ((tnI (if tuneF (A2U code) = true then tuneT (A2U code) else [])).snd) (.need ((↑(List.length (tnI (if tuneF (A2U code) = true then tuneT (A2U code) else [])).fst.snd.snd) : Int) ≤ (9223372036854775807 : Int)) (.leaf [.bool (decide (((tnI (if tuneF (A2U code) = true then tuneT (A2U code) else [])).fst.fst.fst = (A2U code).fst.fst ∧ (tnI (if tuneF (A2U code) = true then tuneT (A2U code) else [])).fst.fst.snd = (A2U code).fst.snd) ∧ ((tnI (if tuneF (A2U code) = true then tuneT (A2U code) else [])).fst.snd.fst.fst = (A2U code).snd.fst.fst ∧ (tnI (if tuneF (A2U code) = true then tuneT (A2U code) else [])).fst.snd.fst.snd = (A2U code).snd.fst.snd) ∧ (tnI (if tuneF (A2U code) = true then tuneT (A2U code) else [])).fst.snd.snd = (A2U code).snd.snd))])) (.leaf [.lit false])))))))))) (.need ((↑(List.length (A2U code).snd.snd) : Int) ≤ (9223372036854775807 : Int)) (.need ((if tuneF (A2U code) = true then tuneT (A2U code) else []).length ≤ (1048576 : Nat)) (.ite ((tnI (if tuneF (A2U code) = true then tuneT (A2U code) else [])).snd) (.need ((↑(List.length (tnI (if tuneF (A2U code) = true then tuneT (A2U code) else [])).fst.snd.snd) : Int) ≤ (9223372036854775807 : Int)) (.leaf [.bool (decide (((tnI (if tuneF (A2U code) = true then tuneT (A2U code) else [])).fst.fst.fst = (A2U code).fst.fst ∧ (tnI (if tuneF (A2U code) = true then tuneT (A2U code) else [])).fst.fst.snd = (A2U code).fst.snd) ∧ ((tnI (if tuneF (A2U code) = true then tuneT (A2U code) else [])).fst.snd.fst.fst = (A2U code).snd.fst.fst ∧ (tnI (if tuneF (A2U code) = true then tuneT (A2U code) else [])).fst.snd.fst.snd = (A2U code).snd.fst.snd) ∧ (tnI (if tuneF (A2U code) = true then tuneT (A2U code) else [])).fst.snd.snd = (A2U code).snd.snd))])) (.leaf [.lit false]))))))) (.need ((↑(List.length (A2U code).snd.snd) : Int) ≤ (9223372036854775807 : Int)) (.ite ((mirF (A2U code)).snd == (0 : Int)) (.need ((↑(List.length (mirF (A2U code)).fst.snd.snd) : Int) ≤ (9223372036854775807 : Int)) (.ite ((mirF (mirF (A2U code)).fst).snd != (0 : Int)) (.leaf [.lit false]) (.need ((↑(List.length (mirF (mirF (A2U code)).fst).fst.snd.snd) : Int) ≤ (9223372036854775807 : Int)) (.ite (!decide (((mirF (mirF (A2U code)).fst).fst.fst.fst = (A2U code).fst.fst ∧ (mirF (mirF (A2U code)).fst).fst.fst.snd = (A2U code).fst.snd) ∧ ((mirF (mirF (A2U code)).fst).fst.snd.fst.fst = (A2U code).snd.fst.fst ∧ (mirF (mirF (A2U code)).fst).fst.snd.fst.snd = (A2U code).snd.fst.snd) ∧ (mirF (mirF (A2U code)).fst).fst.snd.snd = (A2U code).snd.snd)) (.leaf [.lit false]) (.need ((↑(List.length (mirF (A2U code)).fst.snd.snd) : Int) ≤ (9223372036854775807 : Int)) (.ite (!tuneF (mirF (A2U code)).fst) (.leaf [.lit false]) (.need ((↑(List.length (A2U code).snd.snd) : Int) ≤ (9223372036854775807 : Int)) (.need ((if tuneF (A2U code) = true then tuneT (A2U code) else []).length ≤ (1048576 : Nat)) (.ite ((tnI (if tuneF (A2U code) = true then tuneT (A2U code) else [])).snd) (.need ((↑(List.length (tnI (if tuneF (A2U code) = true then tuneT (A2U code) else [])).fst.snd.snd) : Int) ≤ (9223372036854775807 : Int)) (.leaf [.bool (decide (((tnI (if tuneF (A2U code) = true then tuneT (A2U code) else [])).fst.fst.fst = (A2U code).fst.fst ∧ (tnI (if tuneF (A2U code) = true then tuneT (A2U code) else [])).fst.fst.snd = (A2U code).fst.snd) ∧ ((tnI (if tuneF (A2U code) = true then tuneT (A2U code) else [])).fst.snd.fst.fst = (A2U code).snd.fst.fst ∧ (tnI (if tuneF (A2U code) = true then tuneT (A2U code) else [])).fst.snd.fst.snd = (A2U code).snd.fst.snd) ∧ (tnI (if tuneF (A2U code) = true then tuneT (A2U code) else [])).fst.snd.snd = (A2U code).snd.snd))])) (.leaf [.lit false])))))))))) (.need ((↑(List.length (A2U code).snd.snd) : Int) ≤ (9223372036854775807 : Int)) (.need ((if tuneF (A2U code) = true then tuneT (A2U code) else []).length ≤ (1048576 : Nat)) (.ite ((tnI (if tuneF (A2U code) = true then tuneT (A2U code) else [])).snd) (.need ((↑(List.length (tnI (if tuneF (A2U code) = true then tuneT (A2U code) else [])).fst.snd.snd) : Int) ≤ (9223372036854775807 : Int)) (.leaf [.bool (decide (((tnI (if tuneF (A2U code) = true then tuneT (A2U code) else [])).fst.fst.fst = (A2U code).fst.fst ∧ (tnI (if tuneF (A2U code) = true then tuneT (A2U code) else [])).fst.fst.snd = (A2U code).fst.snd) ∧ ((tnI (if tuneF (A2U code) = true then tuneT (A2U code) else [])).fst.snd.fst.fst = (A2U code).snd.fst.fst ∧ (tnI (if tuneF (A2U code) = true then tuneT (A2U code) else [])).fst.snd.fst.snd = (A2U code).snd.fst.snd) ∧ (tnI (if tuneF (A2U code) = true then tuneT (A2U code) else [])).fst.snd.snd = (A2U code).snd.snd))])) (.leaf [.lit false])))))))))))) (.need (inK IntKind.i64 (a2At more (0 : Int) (40 : Int) + (↑(List.length (A2U code).snd.snd) : Int))) (.need ((↑(List.length (A2U code).snd.snd) : Int) ≤ (9223372036854775807 : Int)) (.ite ((ratioF (A2U code) (a2At more (0 : Int) (40 : Int)) (a2At more (0 : Int) (40 : Int) + (↑(List.length (A2U code).snd.snd) : Int))).snd == (0 : Int)) (.ite (!((ratioF (A2U code) (a2At more (0 : Int) (40 : Int)) (a2At more (0 : Int) (40 : Int) + (↑(List.length (A2U code).snd.snd) : Int))).fst.fst == (A2U code).snd.fst.fst && (ratioF (A2U code) (a2At more (0 : Int) (40 : Int)) (a2At more (0 : Int) (40 : Int) + (↑(List.length (A2U code).snd.snd) : Int))).fst.snd == (A2U code).snd.fst.snd)) (.leaf [.lit false]) (.need ((↑(List.length (A2U code).snd.snd) : Int) ≤ (9223372036854775807 : Int)) (.ite ((mirF (A2U code)).snd == (0 : Int)) (.need ((↑(List.length (mirF (A2U code)).fst.snd.snd) : Int) ≤ (9223372036854775807 : Int)) (.ite ((mirF (mirF (A2U code)).fst).snd != (0 : Int)) (.leaf [.lit false]) (.need ((↑(List.length (mirF (mirF (A2U code)).fst).fst.snd.snd) : Int) ≤ (9223372036854775807 : Int)) (.ite (!decide (((mirF (mirF (A2U code)).fst).fst.fst.fst = (A2U code).fst.fst ∧ (mirF (mirF (A2U code)).fst).fst.fst.snd = (A2U code).fst.snd) ∧ ((mirF (mirF (A2U code)).fst).fst.snd.fst.fst = (A2U code).snd.fst.fst ∧ (mirF (mirF (A2U code)).fst).fst.snd.fst.snd = (A2U code).snd.fst.snd) ∧ (mirF (mirF (A2U code)).fst).fst.snd.snd = (A2U code).snd.snd)) (.leaf [.lit false]) (.need ((↑(List.length (mirF (A2U code)).fst.snd.snd) : Int) ≤ (9223372036854775807 : Int)) (.ite (!tuneF (mirF (A2U code)).fst) (.leaf [.lit false]) (.need ((↑(List.length (A2U code).snd.snd) : Int) ≤ (9223372036854775807 : Int)) (.need ((if tuneF (A2U code) = true then tuneT (A2U code) else []).length ≤ (1048576 : Nat)) (.ite ((tnI (if tuneF (A2U code) = true then tuneT (A2U code) else [])).snd) (.need ((↑(List.length (tnI (if tuneF (A2U code) = true then tuneT (A2U code) else [])).fst.snd.snd) : Int) ≤ (9223372036854775807 : Int)) (.leaf [.bool (decide (((tnI (if tuneF (A2U code) = true then tuneT (A2U code) else [])).fst.fst.fst = (A2U code).fst.fst ∧ (tnI (if tuneF (A2U code) = true then tuneT (A2U code) else [])).fst.fst.snd = (A2U code).fst.snd) ∧ ((tnI (if tuneF (A2U code) = true then tuneT (A2U code) else [])).fst.snd.fst.fst = (A2U code).snd.fst.fst ∧ (tnI (if tuneF (A2U code) = true then tuneT (A2U code) else [])).fst.snd.fst.snd = (A2U code).snd.fst.snd) ∧ (tnI (if tuneF (A2U code) = true then tuneT (A2U code) else [])).fst.snd.snd = (A2U code).snd.snd))])) (.leaf [.lit false])))))))))) (.need ((↑(List.length (A2U code).snd.snd) : Int) ≤ (9223372036854775807 : Int)) (.need ((if tuneF (A2U code) = true then tuneT (A2U code) else []).length ≤ (1048576 : Nat)) (.ite ((tnI (if tuneF (A2U code) = true then tuneT (A2U code) else [])).snd) (.need ((↑(List.length (tnI (if tuneF (A2U code) = true then tuneT (A2U code) else [])).fst.snd.snd) : Int) ≤ (9223372036854775807 : Int)) (.leaf [.bool (decide (((tnI (if tuneF (A2U code) = true then tuneT (A2U code) else [])).fst.fst.fst = (A2U code).fst.fst ∧ (tnI (if tuneF (A2U code) = true then tuneT (A2U code) else [])).fst.fst.snd = (A2U code).fst.snd) ∧ ((tnI (if tuneF (A2U code) = true then tuneT (A2U code) else [])).fst.snd.fst.fst = (A2U code).snd.fst.fst ∧ (tnI (if tuneF (A2U code) = true then tuneT (A2U code) else [])).fst.snd.fst.snd = (A2U code).snd.fst.snd) ∧ (tnI (if tuneF (A2U code) = true then tuneT (A2U code) else [])).fst.snd.snd = (A2U code).snd.snd))])) (.leaf [.lit false]))))))) (.need ((↑(List.length (A2U code).snd.snd) : Int) ≤ (9223372036854775807 : Int)) (.ite ((mirF (A2U code)).snd == (0 : Int)) (.need ((↑(List.length (mirF (A2U code)).fst.snd.snd) : Int) ≤ (9223372036854775807 : Int)) (.ite ((mirF (mirF (A2U code)).fst).snd != (0 : Int)) (.leaf [.lit false]) (.need ((↑(List.length (mirF (mirF (A2U code)).fst).fst.snd.snd) : Int) ≤ (9223372036854775807 : Int)) (.ite (!decide (((mirF (mirF (A2U code)).fst).fst.fst.fst = (A2U code).fst.fst ∧ (mirF (mirF (A2U code)).fst).fst.fst.snd = (A2U code).fst.snd) ∧ ((mirF (mirF (A2U code)).fst).fst.snd.fst.fst = (A2U code).snd.fst.fst ∧ (mirF (mirF (A2U code)).fst).fst.snd.fst.snd = (A2U code).snd.fst.snd) ∧ (mirF (mirF (A2U code)).fst).fst.snd.snd = (A2U code).snd.snd)) (.leaf [.lit false]) (.need ((↑(List.length (mirF (A2U code)).fst.snd.snd) : Int) ≤ (9223372036854775807 : Int)) (.ite (!tuneF (mirF (A2U code)).fst) (.leaf [.lit false]) (.need ((↑(List.length (A2U code).snd.snd) : Int) ≤ (9223372036854775807 : Int)) (.need ((if tuneF (A2U code) = true then tuneT (A2U code) else []).length ≤ (1048576 : Nat)) (.ite ((tnI (if tuneF (A2U code) = true then tuneT (A2U code) else [])).snd) (.need ((↑(List.length (tnI (if tuneF (A2U code) = true then tuneT (A2U code) else [])).fst.snd.snd) : Int) ≤ (9223372036854775807 : Int)) (.leaf [.bool (decide (((tnI (if tuneF (A2U code) = true then tuneT (A2U code) else [])).fst.fst.fst = (A2U code).fst.fst ∧ (tnI (if tuneF (A2U code) = true then tuneT (A2U code) else [])).fst.fst.snd = (A2U code).fst.snd) ∧ ((tnI (if tuneF (A2U code) = true then tuneT (A2U code) else [])).fst.snd.fst.fst = (A2U code).snd.fst.fst ∧ (tnI (if tuneF (A2U code) = true then tuneT (A2U code) else [])).fst.snd.fst.snd = (A2U code).snd.fst.snd) ∧ (tnI (if tuneF (A2U code) = true then tuneT (A2U code) else [])).fst.snd.snd = (A2U code).snd.snd))])) (.leaf [.lit false])))))))))) (.need ((↑(List.length (A2U code).snd.snd) : Int) ≤ (9223372036854775807 : Int)) (.need ((if tuneF (A2U code) = true then tuneT (A2U code) else []).length ≤ (1048576 : Nat)) (.ite ((tnI (if tuneF (A2U code) = true then tuneT (A2U code) else [])).snd) (.need ((↑(List.length (tnI (if tuneF (A2U code) = true then tuneT (A2U code) else [])).fst.snd.snd) : Int) ≤ (9223372036854775807 : Int)) (.leaf [.bool (decide (((tnI (if tuneF (A2U code) = true then tuneT (A2U code) else [])).fst.fst.fst = (A2U code).fst.fst ∧ (tnI (if tuneF (A2U code) = true then tuneT (A2U code) else [])).fst.fst.snd = (A2U code).fst.snd) ∧ ((tnI (if tuneF (A2U code) = true then tuneT (A2U code) else [])).fst.snd.fst.fst = (A2U code).snd.fst.fst ∧ (tnI (if tuneF (A2U code) = true then tuneT (A2U code) else [])).fst.snd.fst.snd = (A2U code).snd.fst.snd) ∧ (tnI (if tuneF (A2U code) = true then tuneT (A2U code) else [])).fst.snd.snd = (A2U code).snd.snd))])) (.leaf [.lit false]))))))))))))))))) := by kernel_rfl
  refine (congrArg (Tree.ok _) htree).mpr ?_
  clear htree
  obtain ⟨hp1, hp2⟩ := hp
  have aa := a2At_bd hp2 (i := 0) (by omega) 40
  have a0 : 0 ≤ a2At more 0 40 ∧ a2At more 0 40 ≤ 40 - 1 := ⟨aa.1, aa.2 (by omega)⟩
  clear aa
  have hv : tuneF (A2U code) = true := A2U_valid hp1
  simp only [Tree.ok, tyd_inj, packAV, AV.same, AV.same.sameL, encV, encS, enc, inK, Nd.ok, List.headD_cons, List.cons_append, List.nil_append, List.append_nil, true_and, and_true, Bool.true_and, Bool.and_true]
  generalize A2U code = x at *
  generalize a2At more 0 40 = key at *
  obtain ⟨k, rfl⟩ := Int.eq_ofNat_of_zero_le a0.1
  have hb := tune_bd hv
  have hfk : ∀ m : Nat, m ≤ 127 → fokF x (m : Int) = freqF x (m : Int) := fun m hm => by
    unfold fokF; rw [if_pos hv, if_pos ((inB_iff _ _ _).2 (by omega))]
  have e1 := hfk k (by omega)
  have e2 : fokF x ((k : Int) + 1) = freqF x ((k + 1 : Nat) : Int) := hfk (k + 1) (by omega)
  have hcmp : (fokF x (k : Int)).2 = 0 → (fokF x ((k : Int) + 1)).2 = 0 → ¬ ((0 : Int) ≤ if okF (fokF x (k : Int)).1.1 (fokF x (k : Int)).1.2 = true ∧ okF (fokF x ((k : Int) + 1)).1.1 (fokF x ((k : Int) + 1)).1.2 = true then cmpF (fokF x (k : Int)).1.1 (fokF x (k : Int)).1.2 (fokF x ((k : Int) + 1)).1.1 (fokF x ((k : Int) + 1)).1.2 else 0) := fun c1 c2 => by
    rw [e1] at c1 ⊢
    rw [e2] at c2 ⊢
    have a := freq_q hv c1
    have b := freq_q hv c2
    have l := freq_lt hv (i := k) (j := k + 1) (by omega) c1 c2
    rw [if_pos ⟨a.2, b.2⟩]
    unfold cmpB at l
    omega
  have hnear : allK x ((fokF x (k : Int)).2 == 0) ((k : Int) - 0).toNat 0 = true → nearF x (fokF x (k : Int)).1.1 (fokF x (k : Int)).1.2 = ((k : Int), 0) := fun c => by
    obtain ⟨c1, c2⟩ := allK_iff x _ _ _ c
    rw [e1]
    refine near_own hv (by omega) (fun i hi => ?_)
    by_cases e : i = k
    · subst e; rw [← e1]; exact beq_iff_eq.1 c1
    · have := c2 i (by omega)
      rw [Int.zero_add, hfk i (by omega)] at this
      exact this
  have hrat := ratio_oct hv (key := k) (by omega)
  have hmir := mir_mir hv
  have hml := mirF_len x
  have hread := (tn_of hv).1
  have htl := tuneT_len hv
  simp only [hv, if_true, hread, and_self, decide_true, Bool.and_self]
  clear e1 e2 hfk hread
  generalize fokF x (k : Int) = p at *
  generalize fokF x ((k : Int) + 1) = q at *
  generalize ratioF x (k : Int) ((k : Int) + ((x.2.2 : List tFrac.den).length : Int)) = r at *
  generalize allK x (p.2 == 0) ((k : Int) - 0).toNat 0 = al at *
  generalize nearF x p.1.1 p.1.2 = N at *
  have hml2 : (mirF x).2 = 0 → ((mirF (mirF x).1).1.2.2 : List tFrac.den).length ≤ 24 := fun _ => mirF_len _
  generalize mirF x = M at *
  obtain ⟨M1, M2⟩ := M
  simp only at hmir hml hml2 ⊢
  generalize hMM : mirF M1 = MM at *
  obtain ⟨r1, r2⟩ := r
  simp only at hrat ⊢
  have hx1 : r2 = 0 → (r1.1 == x.2.1.1 && r1.2 == x.2.1.2) = true := fun c => by rw [hrat c]; simp
  have hx2 : M2 = 0 → MM = (x, 0) := fun c => (hmir c).2
  have hx3 : M2 = 0 → tuneF M1 = true := fun c => (hmir c).1
  generalize (r1.1 == x.2.1.1 && r1.2 == x.2.1.2) = bx at *
  clear hrat hmir
  have hcc : ∀ z : Int, -1000000000 ≤ z → z ≤ 1000000000 → inK IntKind.i64 z := fun z _ _ => by simp only [inK]; omega
  simp only [beq_iff_eq, bne_iff_ne, ne_eq, decide_eq_true_eq, decide_eq_false_iff_not, Bool.not_eq_true', Bool.not_eq_false', beq_eq_false_iff_ne, bne_eq_false_iff_eq, Bool.or_eq_true, Bool.or_eq_false_iff, Decidable.not_not]
  repeat' first | apply And.intro | intro _
  all_goals first | omega | exact hp1 | exact hp2 | exact hp1 _ ‹_› | exact hp2 _ ‹_› | exact (hp1 _ ‹_›).1 | exact (hp1 _ ‹_›).2 | exact (hp2 _ ‹_›).1 | exact (hp2 _ ‹_›).2 | exact htl | exact hcc _ (by omega) (by omega) | trivial | rfl | contradiction | exact (hcmp ‹_› ‹_› ‹_›).elim | (have g := hnear ‹_›; simp_all; done) | (have g := hx2 ‹_›; simp_all; done) | (have g := hx3 ‹_›; simp_all; done) | (have g := hx1 ‹_›; simp_all; done) | (have g := hml2 ‹_›; omega) | (simp_all; done) | (trace_state; fail)
def C_Tu_7 : FuncId → Option Ct := addC 5 ct_lawTunings C_Tu_6
theorem C_Tu_7_ok : COk Tryz.prog C_Tu_7 := addC_ok C_Tu_6_ok sat_lawTunings

def C_Tu : FuncId → Option Ct := C_Tu_7
theorem C_Tu_ok : COk Tryz.prog C_Tu := C_Tu_7_ok
end Go.Proofs.YtkeckmdmmbeaiaaGreatDoor
