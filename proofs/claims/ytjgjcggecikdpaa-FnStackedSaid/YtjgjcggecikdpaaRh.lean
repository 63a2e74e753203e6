/- Contracts: what the law on stacked tunings draws. Conditions: as each says. -/
import Derived.Test.YtjgjcggecikdpaaRe
import Derived.Test.YtjgjcggecikdpaaDu
set_option linter.unusedSimpArgs false
set_option linter.unusedVariables false
namespace Go.Proofs.Ytjgjcggecikdpaa
open Go.RowKit Sx
set_option maxRecDepth 100000
set_option maxHeartbeats 1000000
def dNum : List Int := [1000000000, -1000000000, 355, 999999, 123456789, 0]
def dDen : List Int := [1, 7, 113, 999983, 1000000]
def drF6 (n d : Int) (s : Src) : (Int × Int) × Src := (if (mkF n d).2 = 0 then (mkF n d).1 else (1, 1), s)
def drF5 (c d : Int × Src) : (Int × Int) × Src := drF6 c.1 d.1 d.2
def drF4 (c : Int × Src) : (Int × Int) × Src := drF5 c (amongS c.2 dDen)
def drF3 (a b c : Int × Src) : (Int × Int) × Src := if c.1 = 0 then drF4 (amongS c.2 dNum) else drF6 (a.1 - 12) (1 + b.1) c.2
def drF2 (a b : Int × Src) : (Int × Int) × Src := drF3 a b (pickS b.2 8)
def drF1 (a : Int × Src) : (Int × Int) × Src := drF2 a (pickS a.2 12)
def drawF (s : Src) : (Int × Int) × Src := drF1 (pickS s 40)
theorem drF6_ok {n d : Int} {s : Src} {m k : Int} (h : okS s m) (hm : m ≤ k) : okS (drF6 n d s).2 k := h.mono hm
theorem drF6_val {n d : Int} (hd : d ≠ 0) (s : Src) : okF (drF6 n d s).1.1 (drF6 n d s).1.2 = true := by
  unfold drF6
  dsimp only
  split
  · rename_i h
    exact mkF_ok hd h
  · decide
theorem drawF_ok {s : Src} {m : Int} (h : okS s m) : okS (drawF s).2 (m + 10) ∧ okF (drawF s).1.1 (drawF s).1.2 = true := by
  rw [show drawF s = drF1 (pickS s 40) from rfl]
  have h1 := pickS_ok h 40
  generalize pickS s 40 = d1 at *
  rw [show drF1 d1 = drF2 d1 (pickS d1.2 12) from rfl]
  have h2 := pickS_ok h1 12
  have b2 := pickS_bd h1 12
  generalize pickS d1.2 12 = d2 at *
  rw [show drF2 d1 d2 = drF3 d1 d2 (pickS d2.2 8) from rfl]
  have h3 := pickS_ok h2 8
  generalize pickS d2.2 8 = d3 at *
  by_cases hz : d3.1 = 0
  · rw [show drF3 d1 d2 d3 = drF4 (amongS d3.2 dNum) from if_pos hz]
    have h4 := amongS_ok h3 dNum
    generalize amongS d3.2 dNum = d4 at *
    rw [show drF4 d4 = drF5 d4 (amongS d4.2 dDen) from rfl]
    have h5 := amongS_ok h4 dDen
    have m5 := amongS_mem h4 dDen (by decide)
    generalize amongS d4.2 dDen = d5 at *
    simp only [dDen, List.mem_cons, List.not_mem_nil, or_false] at m5
    exact ⟨drF6_ok h5 (by omega), drF6_val (by omega) _⟩
  · rw [show drF3 d1 d2 d3 = drF6 (d1.1 - 12) (1 + d2.1) d3.2 from if_neg hz]
    exact ⟨drF6_ok h3 (by omega), drF6_val (by omega) _⟩
def ct_l02Draw : Ct := ctOfB tSrc [] (fun ((code : List (Ty.int .u8).den), (a : Int), (sd : Int)) _ => .p (okS (code, a, sd) 500000000)) (fun ((code : List (Ty.int .u8).den), (a : Int), (sd : Int)) _ => .agg (enc tFrac (drawF (code, a, sd)).1)) (fun ((code : List (Ty.int .u8).den), (a : Int), (sd : Int)) _ => (drawF (code, a, sd)).2)
set_option maxHeartbeats 1000000 in
theorem sat_l02Draw : Sat Try.prog 191 ct_l02Draw := by
  refine sat_typedB (C := C_Du) (L := noL) (wr := false) mixedOk Try.func191 C_Du_ok (loops0 (by kernel_rfl)) (fun _ _ => by first | rfl | (simp [ownsOf, ownsOf.ownsL, enc, encV, encS])) fun bx x hp => ?_
  obtain ⟨(code : List (Ty.int .u8).den), (a : Int), (sd : Int)⟩ := bx
  obtain _ := x
  replace hp : okS (code, a, sd) 500000000 := hp
  have htree : exFuncB Try.prog C_Du false noL Try.f191 (encA [] ()) ⟨tSrc, (code, a, sd)⟩ = .need (okS (code, a, sd) (900000000 : Int) ∧ (40 : Int) ≤ (1000000 : Int)) (.need (inK IntKind.i64 ((pickS (code, a, sd) (40 : Int)).fst - (12 : Int))) (.need (okS (pickS (code, a, sd) (40 : Int)).snd (900000000 : Int) ∧ (12 : Int) ≤ (1000000 : Int)) (.need (inK IntKind.i64 ((1 : Int) + (pickS (pickS (code, a, sd) (40 : Int)).snd (12 : Int)).fst)) (.need (okS (pickS (pickS (code, a, sd) (40 : Int)).snd (12 : Int)).snd (900000000 : Int) ∧ (8 : Int) ≤ (1000000 : Int)) (.ite (decide ((pickS (pickS (pickS (code, a, sd) (40 : Int)).snd (12 : Int)).snd (8 : Int)).fst = (0 : Int))) (.need (okS (pickS (pickS (pickS (code, a, sd) (40 : Int)).snd (12 : Int)).snd (8 : Int)).snd (900000000 : Int) ∧ (1 : Int) ≤ (↑[(1000000000 : Int), (-1000000000 : Int), (355 : Int), (999999 : Int), (123456789 : Int), (0 : Int)].length : Int) ∧ (↑[(1000000000 : Int), (-1000000000 : Int), (355 : Int), (999999 : Int), (123456789 : Int), (0 : Int)].length : Int) ≤ (1000000 : Int)) (.need (okS (amongS (pickS (pickS (pickS (code, a, sd) (40 : Int)).snd (12 : Int)).snd (8 : Int)).snd [(1000000000 : Int), (-1000000000 : Int), (355 : Int), (999999 : Int), (123456789 : Int), (0 : Int)]).snd (900000000 : Int) ∧ (1 : Int) ≤ (↑[(1 : Int), (7 : Int), (113 : Int), (999983 : Int), (1000000 : Int)].length : Int) ∧ (↑[(1 : Int), (7 : Int), (113 : Int), (999983 : Int), (1000000 : Int)].length : Int) ≤ (1000000 : Int)) (.need (((-9223372036854775808 : Int) ≤ (amongS (pickS (pickS (pickS (code, a, sd) (40 : Int)).snd (12 : Int)).snd (8 : Int)).snd [(1000000000 : Int), (-1000000000 : Int), (355 : Int), (999999 : Int), (123456789 : Int), (0 : Int)]).fst ∧ (amongS (pickS (pickS (pickS (code, a, sd) (40 : Int)).snd (12 : Int)).snd (8 : Int)).snd [(1000000000 : Int), (-1000000000 : Int), (355 : Int), (999999 : Int), (123456789 : Int), (0 : Int)]).fst ≤ (9223372036854775807 : Int)) ∧ (-9223372036854775808 : Int) ≤ (amongS (amongS (pickS (pickS (pickS (code, a, sd) (40 : Int)).snd (12 : Int)).snd (8 : Int)).snd [(1000000000 : Int), (-1000000000 : Int), (355 : Int), (999999 : Int), (123456789 : Int), (0 : Int)]).snd [(1 : Int), (7 : Int), (113 : Int), (999983 : Int), (1000000 : Int)]).fst ∧ (amongS (amongS (pickS (pickS (pickS (code, a, sd) (40 : Int)).snd (12 : Int)).snd (8 : Int)).snd [(1000000000 : Int), (-1000000000 : Int), (355 : Int), (999999 : Int), (123456789 : Int), (0 : Int)]).snd [(1 : Int), (7 : Int), (113 : Int), (999983 : Int), (1000000 : Int)]).fst ≤ (9223372036854775807 : Int)) (.ite ((mkF (amongS (pickS (pickS (pickS (code, a, sd) (40 : Int)).snd (12 : Int)).snd (8 : Int)).snd [(1000000000 : Int), (-1000000000 : Int), (355 : Int), (999999 : Int), (123456789 : Int), (0 : Int)]).fst (amongS (amongS (pickS (pickS (pickS (code, a, sd) (40 : Int)).snd (12 : Int)).snd (8 : Int)).snd [(1000000000 : Int), (-1000000000 : Int), (355 : Int), (999999 : Int), (123456789 : Int), (0 : Int)]).snd [(1 : Int), (7 : Int), (113 : Int), (999983 : Int), (1000000 : Int)]).fst).snd != (0 : Int)) (.leaf ([.agg [.int .i64 ((1 : Int)), .int .i64 ((1 : Int))]], ⟨(Ty.int IntKind.u8).seq.pair ((Ty.int IntKind.i64).pair (Ty.int IntKind.u64)), (amongS (amongS (pickS (pickS (pickS (code, a, sd) (40 : Int)).snd (12 : Int)).snd (8 : Int)).snd [(1000000000 : Int), (-1000000000 : Int), (355 : Int), (999999 : Int), (123456789 : Int), (0 : Int)]).snd [(1 : Int), (7 : Int), (113 : Int), (999983 : Int), (1000000 : Int)]).snd⟩)) (.leaf ([.agg [.int .i64 ((mkF (amongS (pickS (pickS (pickS (code, a, sd) (40 : Int)).snd (12 : Int)).snd (8 : Int)).snd [(1000000000 : Int), (-1000000000 : Int), (355 : Int), (999999 : Int), (123456789 : Int), (0 : Int)]).fst (amongS (amongS (pickS (pickS (pickS (code, a, sd) (40 : Int)).snd (12 : Int)).snd (8 : Int)).snd [(1000000000 : Int), (-1000000000 : Int), (355 : Int), (999999 : Int), (123456789 : Int), (0 : Int)]).snd [(1 : Int), (7 : Int), (113 : Int), (999983 : Int), (1000000 : Int)]).fst).fst.fst), .int .i64 ((mkF (amongS (pickS (pickS (pickS (code, a, sd) (40 : Int)).snd (12 : Int)).snd (8 : Int)).snd [(1000000000 : Int), (-1000000000 : Int), (355 : Int), (999999 : Int), (123456789 : Int), (0 : Int)]).fst (amongS (amongS (pickS (pickS (pickS (code, a, sd) (40 : Int)).snd (12 : Int)).snd (8 : Int)).snd [(1000000000 : Int), (-1000000000 : Int), (355 : Int), (999999 : Int), (123456789 : Int), (0 : Int)]).snd [(1 : Int), (7 : Int), (113 : Int), (999983 : Int), (1000000 : Int)]).fst).fst.snd)]], ⟨(Ty.int IntKind.u8).seq.pair ((Ty.int IntKind.i64).pair (Ty.int IntKind.u64)), (amongS (amongS (pickS (pickS (pickS (code, a, sd) (40 : Int)).snd (12 : Int)).snd (8 : Int)).snd [(1000000000 : Int), (-1000000000 : Int), (355 : Int), (999999 : Int), (123456789 : Int), (0 : Int)]).snd [(1 : Int), (7 : Int), (113 : Int), (999983 : Int), (1000000 : Int)]).snd⟩)))))) (.need (((-9223372036854775808 : Int) ≤ (pickS (code, a, sd) (40 : Int)).fst - (12 : Int) ∧ (pickS (code, a, sd) (40 : Int)).fst - (12 : Int) ≤ (9223372036854775807 : Int)) ∧ (-9223372036854775808 : Int) ≤ (1 : Int) + (pickS (pickS (code, a, sd) (40 : Int)).snd (12 : Int)).fst ∧ (1 : Int) + (pickS (pickS (code, a, sd) (40 : Int)).snd (12 : Int)).fst ≤ (9223372036854775807 : Int)) (.ite ((mkF ((pickS (code, a, sd) (40 : Int)).fst - (12 : Int)) ((1 : Int) + (pickS (pickS (code, a, sd) (40 : Int)).snd (12 : Int)).fst)).snd != (0 : Int)) (.leaf ([.agg [.int .i64 ((1 : Int)), .int .i64 ((1 : Int))]], ⟨(Ty.int IntKind.u8).seq.pair ((Ty.int IntKind.i64).pair (Ty.int IntKind.u64)), (pickS (pickS (pickS (code, a, sd) (40 : Int)).snd (12 : Int)).snd (8 : Int)).snd⟩)) (.leaf ([.agg [.int .i64 ((mkF ((pickS (code, a, sd) (40 : Int)).fst - (12 : Int)) ((1 : Int) + (pickS (pickS (code, a, sd) (40 : Int)).snd (12 : Int)).fst)).fst.fst), .int .i64 ((mkF ((pickS (code, a, sd) (40 : Int)).fst - (12 : Int)) ((1 : Int) + (pickS (pickS (code, a, sd) (40 : Int)).snd (12 : Int)).fst)).fst.snd)]], ⟨(Ty.int IntKind.u8).seq.pair ((Ty.int IntKind.i64).pair (Ty.int IntKind.u64)), (pickS (pickS (pickS (code, a, sd) (40 : Int)).snd (12 : Int)).snd (8 : Int)).snd⟩))))))))) := by kernel_rfl
  refine (congrArg (Tree.ok _) htree).mpr ?_
  clear htree
  have h0 := hp
  have eN : ([1000000000, -1000000000, 355, 999999, 123456789, 0] : List Int) = dNum := rfl
  have eD : ([1, 7, 113, 999983, 1000000] : List Int) = dDen := rfl
  have lN : dNum.length = 6 := rfl
  have lD : dDen.length = 5 := rfl
  have b1 := pickS_bd h0 40
  have h1 := pickS_ok h0 40
  simp only [Tree.ok, tyd_inj, packAV, AV.same, AV.same.sameL, encV, encS, enc, inK, Nd.ok, List.headD_cons, List.cons_append, List.nil_append, List.append_nil, true_and, and_true, Bool.true_and, Bool.and_true, eN, eD, lN, lD, decide_eq_true_eq, decide_eq_false_iff_not, bne_iff_ne, ne_eq, bne_eq_false_iff_eq, beq_iff_eq, beq_eq_false_iff_ne]
  rw [show drawF (code, a, sd) = drF1 (pickS (code, a, sd) 40) from rfl]
  generalize pickS (code, a, sd) 40 = d1 at *
  rw [show drF1 d1 = drF2 d1 (pickS d1.2 12) from rfl]
  have h2 := pickS_ok h1 12
  have b2 := pickS_bd h1 12
  generalize pickS d1.2 12 = d2 at *
  rw [show drF2 d1 d2 = drF3 d1 d2 (pickS d2.2 8) from rfl]
  have h3 := pickS_ok h2 8
  generalize pickS d2.2 8 = d3 at *
  have q1 := b1.2.1 (by omega)
  have q2 := b2.2.1 (by omega)
  refine ⟨⟨h0.mono (by omega), by decide⟩, by omega, ⟨h1.mono (by omega), by decide⟩, by omega, ⟨h2.mono (by omega), by decide⟩, fun hz => ?_, fun hz => ?_⟩
  · rw [show drF3 d1 d2 d3 = drF4 (amongS d3.2 dNum) from if_pos hz]
    have h4 := amongS_ok h3 dNum
    have m4 := amongS_mem h3 dNum (by decide)
    generalize amongS d3.2 dNum = d4 at *
    rw [show drF4 d4 = drF5 d4 (amongS d4.2 dDen) from rfl]
    have m5 := amongS_mem h4 dDen (by decide)
    have h5 := amongS_ok h4 dDen
    generalize amongS d4.2 dDen = d5 at *
    simp only [dDen, dNum, List.mem_cons, List.not_mem_nil, or_false] at m4 m5
    refine ⟨⟨h3.mono (by omega), by decide, by decide⟩, ⟨h4.mono (by omega), by decide, by decide⟩, ⟨by omega, by omega⟩, ?_⟩
    unfold drF5 drF6
    generalize mkF d4.1 d5.1 = q
    by_cases hq : q.2 = 0
    · simp [hq]
    · simp [hq]
  · rw [show drF3 d1 d2 d3 = drF6 (d1.1 - 12) (1 + d2.1) d3.2 from if_neg hz]
    refine ⟨⟨by omega, by omega⟩, ?_⟩
    unfold drF6
    generalize mkF (d1.1 - 12) (1 + d2.1) = q
    by_cases hq : q.2 = 0
    · simp [hq]
    · simp [hq]
def C_Rh_1 : FuncId → Option Ct := addC 191 ct_l02Draw C_Du
theorem C_Rh_1_ok : COk Try.prog C_Rh_1 := addC_ok C_Du_ok sat_l02Draw
def bDen : List Int := [0, -1, 1000001, -9223372036854775808]
def bNum : List Int := [1000000001, -1000000001, -9223372036854775808]
def bnA (d : (Int × Int) × Src) (c : Int × Src) : (Int × Int) × Src := ((d.1.1, c.1), c.2)
def bnB (d : (Int × Int) × Src) (c : Int × Src) : (Int × Int) × Src := ((c.1, d.1.2), c.2)
def bn2 (d : (Int × Int) × Src) (p : Int × Src) : (Int × Int) × Src :=
  if p.1 = 0 then bnA d (amongS p.2 bDen) else if p.1 = 1 then bnB d (amongS p.2 bNum) else if p.1 = 2 then ((d.1.1 * 2, d.1.2 * 2), p.2) else (d.1, p.2)
def bn1 (d : (Int × Int) × Src) : (Int × Int) × Src := bn2 d (pickS d.2 24)
def bentF (s : Src) : (Int × Int) × Src := bn1 (drawF s)
theorem bentF_ok {s : Src} {m : Int} (h : okS s m) : okS (bentF s).2 (m + 14) := by
  rw [show bentF s = bn1 (drawF s) from rfl]
  have h1 := (drawF_ok h).1
  generalize drawF s = d1 at *
  rw [show bn1 d1 = bn2 d1 (pickS d1.2 24) from rfl]
  have h2 := pickS_ok h1 24
  generalize pickS d1.2 24 = d2 at *
  unfold bn2
  split
  · exact (amongS_ok h2 bDen).mono (by omega)
  · split
    · exact (amongS_ok h2 bNum).mono (by omega)
    · split
      · exact h2.mono (by omega)
      · exact h2.mono (by omega)
def ct_l02Bent : Ct := ctOfB tSrc [] (fun ((code : List (Ty.int .u8).den), (a : Int), (sd : Int)) _ => .p (okS (code, a, sd) 400000000)) (fun ((code : List (Ty.int .u8).den), (a : Int), (sd : Int)) _ => .agg (enc tFrac (bentF (code, a, sd)).1)) (fun ((code : List (Ty.int .u8).den), (a : Int), (sd : Int)) _ => (bentF (code, a, sd)).2)
set_option maxHeartbeats 1000000 in
theorem sat_l02Bent : Sat Try.prog 149 ct_l02Bent := by
  refine sat_typedB (C := C_Rh_1) (L := noL) (wr := false) mixedOk Try.func149 C_Rh_1_ok (loops0 (by kernel_rfl)) (fun _ _ => by first | rfl | (simp [ownsOf, ownsOf.ownsL, enc, encV, encS])) fun bx x hp => ?_
  obtain ⟨(code : List (Ty.int .u8).den), (a : Int), (sd : Int)⟩ := bx
  obtain _ := x
  replace hp : okS (code, a, sd) 400000000 := hp
  have htree : exFuncB Try.prog C_Rh_1 false noL Try.f149 (encA [] ()) ⟨tSrc, (code, a, sd)⟩ = .need (okS (code, a, sd) (500000000 : Int)) (.need (okS (drawF (code, a, sd)).snd (900000000 : Int) ∧ (24 : Int) ≤ (1000000 : Int)) (.ite ((pickS (drawF (code, a, sd)).snd (24 : Int)).fst == (0 : Int)) (.need (okS (pickS (drawF (code, a, sd)).snd (24 : Int)).snd (900000000 : Int) ∧ (1 : Int) ≤ (↑[(0 : Int), (-1 : Int), (1000001 : Int), (-9223372036854775808 : Int)].length : Int) ∧ (↑[(0 : Int), (-1 : Int), (1000001 : Int), (-9223372036854775808 : Int)].length : Int) ≤ (1000000 : Int)) (.leaf ([.agg [.int .i64 ((drawF (code, a, sd)).fst.fst), .int .i64 ((amongS (pickS (drawF (code, a, sd)).snd (24 : Int)).snd [(0 : Int), (-1 : Int), (1000001 : Int), (-9223372036854775808 : Int)]).fst)]], ⟨(Ty.int IntKind.u8).seq.pair ((Ty.int IntKind.i64).pair (Ty.int IntKind.u64)), (amongS (pickS (drawF (code, a, sd)).snd (24 : Int)).snd [(0 : Int), (-1 : Int), (1000001 : Int), (-9223372036854775808 : Int)]).snd⟩))) (.ite ((pickS (drawF (code, a, sd)).snd (24 : Int)).fst == (1 : Int)) (.need (okS (pickS (drawF (code, a, sd)).snd (24 : Int)).snd (900000000 : Int) ∧ (1 : Int) ≤ (↑[(1000000001 : Int), (-1000000001 : Int), (-9223372036854775808 : Int)].length : Int) ∧ (↑[(1000000001 : Int), (-1000000001 : Int), (-9223372036854775808 : Int)].length : Int) ≤ (1000000 : Int)) (.leaf ([.agg [.int .i64 ((amongS (pickS (drawF (code, a, sd)).snd (24 : Int)).snd [(1000000001 : Int), (-1000000001 : Int), (-9223372036854775808 : Int)]).fst), .int .i64 ((drawF (code, a, sd)).fst.snd)]], ⟨(Ty.int IntKind.u8).seq.pair ((Ty.int IntKind.i64).pair (Ty.int IntKind.u64)), (amongS (pickS (drawF (code, a, sd)).snd (24 : Int)).snd [(1000000001 : Int), (-1000000001 : Int), (-9223372036854775808 : Int)]).snd⟩))) (.ite ((pickS (drawF (code, a, sd)).snd (24 : Int)).fst == (2 : Int)) (.need (inK IntKind.i64 ((drawF (code, a, sd)).fst.fst * (2 : Int))) (.need (inK IntKind.i64 ((drawF (code, a, sd)).fst.snd * (2 : Int))) (.leaf ([.agg [.int .i64 ((drawF (code, a, sd)).fst.fst * (2 : Int)), .int .i64 ((drawF (code, a, sd)).fst.snd * (2 : Int))]], ⟨(Ty.int IntKind.u8).seq.pair ((Ty.int IntKind.i64).pair (Ty.int IntKind.u64)), (pickS (drawF (code, a, sd)).snd (24 : Int)).snd⟩)))) (.leaf ([.agg [.int .i64 ((drawF (code, a, sd)).fst.fst), .int .i64 ((drawF (code, a, sd)).fst.snd)]], ⟨(Ty.int IntKind.u8).seq.pair ((Ty.int IntKind.i64).pair (Ty.int IntKind.u64)), (pickS (drawF (code, a, sd)).snd (24 : Int)).snd⟩)))))) := by kernel_rfl
  refine (congrArg (Tree.ok _) htree).mpr ?_
  clear htree
  have h0 := hp
  have eN : ([1000000001, -1000000001, -9223372036854775808] : List Int) = bNum := rfl
  have eD : ([0, -1, 1000001, -9223372036854775808] : List Int) = bDen := rfl
  have lN : bNum.length = 3 := rfl
  have lD : bDen.length = 4 := rfl
  have h1 := (drawF_ok h0).1
  have o1 := okF_bd (drawF_ok h0).2
  simp only [Tree.ok, tyd_inj, packAV, AV.same, AV.same.sameL, encV, encS, enc, inK, Nd.ok, List.headD_cons, List.cons_append, List.nil_append, List.append_nil, true_and, and_true, Bool.true_and, Bool.and_true, eN, eD, lN, lD, decide_eq_true_eq, decide_eq_false_iff_not, bne_iff_ne, ne_eq, bne_eq_false_iff_eq, beq_iff_eq, beq_eq_false_iff_ne]
  rw [show bentF (code, a, sd) = bn1 (drawF (code, a, sd)) from rfl]
  generalize drawF (code, a, sd) = d1 at *
  rw [show bn1 d1 = bn2 d1 (pickS d1.2 24) from rfl]
  have h2 := pickS_ok h1 24
  generalize pickS d1.2 24 = d2 at *
  obtain ⟨⟨n1, m1⟩, s1⟩ := d1
  simp only at o1
  unfold bn2 bnA bnB
  by_cases c0 : d2.1 = 0
  · simp only [c0, if_true]
    repeat' first | apply And.intro | intro _
    all_goals first | omega | exact h0.mono (by omega) | exact h1.mono (by omega) | exact h2.mono (by omega) | trivial | rfl | contradiction
  by_cases c1 : d2.1 = 1
  · simp only [c1, if_true]
    repeat' first | apply And.intro | intro _
    all_goals first | omega | exact h0.mono (by omega) | exact h1.mono (by omega) | exact h2.mono (by omega) | trivial | rfl | contradiction
  by_cases c2 : d2.1 = 2
  · simp only [c2, if_true]
    repeat' first | apply And.intro | intro _
    all_goals first | omega | exact h0.mono (by omega) | exact h1.mono (by omega) | exact h2.mono (by omega) | trivial | rfl | contradiction
  · simp only [if_neg c0, if_neg c1, if_neg c2]
    repeat' first | apply And.intro | intro _
    all_goals first | omega | exact h0.mono (by omega) | exact h1.mono (by omega) | exact h2.mono (by omega) | trivial | rfl | contradiction
def C_Rh_2 : FuncId → Option Ct := addC 149 ct_l02Bent C_Rh_1
theorem C_Rh_2_ok : COk Try.prog C_Rh_2 := addC_ok C_Rh_1_ok sat_l02Bent

def C_Rh : FuncId → Option Ct := C_Rh_2
theorem C_Rh_ok : COk Try.prog C_Rh := C_Rh_2_ok
end Go.Proofs.Ytjgjcggecikdpaa
