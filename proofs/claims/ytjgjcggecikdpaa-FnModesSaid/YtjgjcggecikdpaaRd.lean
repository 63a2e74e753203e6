/- Contracts: a drawn tuning. Conditions: as each says. -/
import Derived.Test.YtjgjcggecikdpaaRc
import Derived.Test.YtjgjcggecikdpaaDu
set_option linter.unusedSimpArgs false
set_option linter.unusedVariables false
namespace Go.Proofs.Ytjgjcggecikdpaa
open Go.RowKit Sx
set_option maxRecDepth 100000
set_option maxHeartbeats 1000000
theorem stackF_valid {b o g : Fr} {n : Int} (h : (stackF b o g n).2 = 0) : tuneF (stackF b o g n).1 = true := by
  unfold stackF at *
  split at h
  · rename_i h1
    rw [if_pos h1]
    split at h
    · simp at h
    · rename_i h2
      rw [if_neg h2]
      split at h
      · rename_i h3
        rw [if_pos h3]
        split at h
        · rename_i h4
          rw [if_pos h4]; exact h4
        · simp at h
      · simp at h
  · simp at h
theorem restX_valid {B O : Fr} {d : Int × Src} {m : Int} (hB : PosF B) (hO : OctF O) (h : okS d.2 m) : tuneF (restX B O d).1 = true := (tuneN_ok B O d.1.toNat h (tune_one hB hO)).2
theorem octX_ok {O : Fr} (h : PosF O) : OctF (octX O) := by
  unfold octX
  split
  · exact oct_two
  · rename_i hc
    exact ⟨h.ok, Int.not_le.1 hc⟩
theorem tuneS_valid {s : Src} {m : Int} (h0 : okS s m) : tuneF (tuneS s).1 = true := by
  have hb1 := pickS_bd h0 40
  have h1 := pickS_ok h0 40
  rw [show tuneS s = tuneA (pickS s 40) from rfl]
  generalize pickS s 40 = d1 at *
  rw [show tuneA d1 = tuneB d1 (amongS d1.2 [1, 1, 2, 3]) from rfl]
  have m2 := amongS_mem h1 [1, 1, 2, 3] (by decide)
  have h2 := amongS_ok h1 [1, 1, 2, 3]
  generalize amongS d1.2 [1, 1, 2, 3] = d2 at *
  rw [show tuneB d1 d2 = tuneC (mkF (1 + d1.1) d2.1).1 (amongS d2.2 [2, 2, 2, 3, 3, 7]) from rfl]
  have m3 := amongS_mem h2 [2, 2, 2, 3, 3, 7] (by decide)
  have h3 := amongS_ok h2 [2, 2, 2, 3, 3, 7]
  generalize amongS d2.2 [2, 2, 2, 3, 3, 7] = d3 at *
  simp only [List.mem_cons, List.not_mem_nil, or_false] at m2 m3
  have q1 := hb1.2.1 (by omega)
  have hB := (mk_pos (n := 1 + d1.1) (d := d2.1) (by omega) (by omega)).2
  generalize mkF (1 + d1.1) d2.1 = B at *
  rw [show tuneC B.1 d3 = tuneD B.1 d3 (amongS d3.2 [1, 1, 1, 2]) from rfl]
  have m4 := amongS_mem h3 [1, 1, 1, 2] (by decide)
  have h4 := amongS_ok h3 [1, 1, 1, 2]
  generalize amongS d3.2 [1, 1, 1, 2] = d4 at *
  simp only [List.mem_cons, List.not_mem_nil, or_false] at m4
  rw [show tuneD B.1 d3 d4 = tuneE B.1 (octX (mkF d3.1 d4.1).1) (pickS d4.2 3) from rfl]
  have hO := octX_ok (mk_pos (n := d3.1) (d := d4.1) (by omega) (by omega)).2
  generalize octX (mkF d3.1 d4.1).1 = O at *
  have h5 := pickS_ok h4 3
  generalize pickS d4.2 3 = d5 at *
  unfold tuneE
  split
  · unfold tuneG tuneH tuneI tuneJ
    split
    · rename_i hT
      exact stackF_valid hT
    · exact restX_valid hB hO (pickS_ok (pickS_ok (amongS_ok (amongS_ok h5 _) _) 8) 8)
  · exact restX_valid hB hO (pickS_ok h5 8)
def A2U (l : List Int) : tTuning.den := (tuneS (l, 0, 0)).1
theorem A2U_valid {l : List Int} (h : bytesOk l) : tuneF (A2U l) = true := tuneS_valid (from_ok h)
def ct_A2Tuning : Ct := ctOf [.v (.seq (.int .u8))] (fun ((code : List (Ty.int .u8).den), _) => .p (bytesOk code)) (fun ((code : List (Ty.int .u8).den), _) => .agg [.int .i64 (A2U code).1.1, .int .i64 (A2U code).1.2, .int .i64 (A2U code).2.1.1, .int .i64 (A2U code).2.1.2, .own tFrac (A2U code).2.2])
set_option maxHeartbeats 1000000 in
theorem sat_A2Tuning : Sat Try.prog 24 ct_A2Tuning := by
  refine sat_typed (C := C_Rc) (L := noL) (wr := false) mixedOk Try.func24 C_Rc_ok (loops0 (by kernel_rfl)) (fun _ => by first | rfl | (simp [ownsOf, ownsOf.ownsL, enc, encV, encS])) fun x hp => ?_
  obtain ⟨(code : List (Ty.int .u8).den), _⟩ := x
  replace hp : bytesOk code := hp
  have htree : exFunc Try.prog C_Rc false noL Try.f24 (encA [.v (.seq (.int .u8))] (code, ())) = .need (okS (code, (0 : I64.den), (0 : (Ty.int IntKind.u64).den)) (600000000 : Int)) (.leaf [.agg [.int .i64 ((tuneS (code, (0 : I64.den), (0 : (Ty.int IntKind.u64).den))).fst.fst.fst), .int .i64 ((tuneS (code, (0 : I64.den), (0 : (Ty.int IntKind.u64).den))).fst.fst.snd), .int .i64 ((tuneS (code, (0 : I64.den), (0 : (Ty.int IntKind.u64).den))).fst.snd.fst.fst), .int .i64 ((tuneS (code, (0 : I64.den), (0 : (Ty.int IntKind.u64).den))).fst.snd.fst.snd), .own (I64.pair I64) ((tuneS (code, (0 : I64.den), (0 : (Ty.int IntKind.u64).den))).fst.snd.snd)]]) := by kernel_rfl
  refine (congrArg (Tree.ok _) htree).mpr ?_
  clear htree
  have h0 := from_ok hp
  have h1 := h0.mono (show (0 : Int) ≤ 600000000 by omega)
  have e : A2U code = (tuneS (code, 0, 0)).1 := rfl
  simp only [Tree.ok, tyd_inj, packAV, AV.same, AV.same.sameL, encV, encS, enc, inK, Nd.ok, List.headD_cons, List.cons_append, List.nil_append, List.append_nil, true_and, and_true, Bool.true_and, Bool.and_true, e]
  repeat' first | apply And.intro | intro _
  all_goals first | exact h1 | omega | rfl | trivial
def C_Rd_1 : FuncId → Option Ct := addC 24 ct_A2Tuning C_Rc
theorem C_Rd_1_ok : COk Try.prog C_Rd_1 := addC_ok C_Rc_ok sat_A2Tuning

def C_Rd : FuncId → Option Ct := C_Rd_1
theorem C_Rd_ok : COk Try.prog C_Rd := C_Rd_1_ok
end Go.Proofs.Ytjgjcggecikdpaa
