/- Contracts: what the law on stacked tunings draws, its ratios. Conditions: as each says. -/
import Derived.Test.YtjgjcggecikdpaaRh
set_option linter.unusedSimpArgs false
set_option linter.unusedVariables false
namespace Go.Proofs.Ytjgjcggecikdpaa
open Go.RowKit Sx
set_option maxRecDepth 100000
set_option maxHeartbeats 1000000
def C_RiB : FuncId → Option Ct := addC 48 ct_iStack (addC 128 ct_reduceRatio C_Rh)
theorem C_RiB_ok : COk Try.prog C_RiB := addC_ok (addC_ok C_Rh_ok sat_reduceRatio) sat_iStack
def redR (r o : Fr) : Fr × Int × Int := if okF r.1 r.2 = true ∧ okF o.1 o.2 = true then (if r.1 ≤ 0 ∨ cmpB o (1, 1) ≤ 0 then ((0, 0), 0, 2) else redF r o) else ((0, 0), 0, 1)
def ct_ReduceRatio : Ct := ctOf [.s tFrac, .s tFrac] (fun _ => .tt) (fun ((r : tFrac.den), (o : tFrac.den), _) => .tup [.agg (enc tFrac (redR r o).1), .int .i64 (redR r o).2.1, .int .i64 (redR r o).2.2])
set_option maxHeartbeats 1000000 in
theorem sat_ReduceRatio : Sat Try.prog 62 ct_ReduceRatio := by
  refine sat_typed (C := C_RiB) (L := noL) (wr := false) mixedOk Try.func62 C_RiB_ok (loops0 (by kernel_rfl)) (fun _ => by first | rfl | (simp [ownsOf, ownsOf.ownsL, enc, encV, encS])) fun x hp => ?_
  obtain ⟨(r : tFrac.den), (o : tFrac.den), _⟩ := x
  clear hp
  have htree : exFunc Try.prog C_RiB false noL Try.f62 (encA [.s tFrac, .s tFrac] (r, o, ())) = .need ((↑[r, o].length : Int) ≤ (9223372036854775807 : Int)) (.ite (!okFs [r, o]) (.leaf [.agg [.int .i64 ((0 : Int)), .int .i64 ((0 : Int))], .int .i64 ((0 : Int)), .int .i64 ((1 : Int))]) (.ite (decide (r.fst ≤ (0 : Int))) (.leaf [.agg [.int .i64 ((0 : Int)), .int .i64 ((0 : Int))], .int .i64 ((0 : Int)), .int .i64 ((2 : Int))]) (.need ((((1 : Int) ≤ o.snd ∧ o.snd ≤ (1000000 : Int)) ∧ (-1000000000 : Int) ≤ o.fst ∧ o.fst ≤ (1000000000 : Int)) ∧ ((1 : Int) ≤ (1 : Int) ∧ (1 : Int) ≤ (1000000 : Int)) ∧ (-1000000000 : Int) ≤ (1 : Int) ∧ (1 : Int) ≤ (1000000000 : Int)) (.ite (decide (cmpF o.fst o.snd (1 : Int) (1 : Int) ≤ (0 : Int))) (.leaf [.agg [.int .i64 ((0 : Int)), .int .i64 ((0 : Int))], .int .i64 ((0 : Int)), .int .i64 ((2 : Int))]) (.need (PosF r ∧ OctF o) (.leaf [.agg [.int .i64 ((redF r o).fst.fst), .int .i64 ((redF r o).fst.snd)], .int .i64 ((redF r o).snd.fst), .int .i64 ((redF r o).snd.snd)])))))) := by kernel_rfl
  refine (congrArg (Tree.ok _) htree).mpr ?_
  clear htree
  have eta : ∀ z : Fr, (z.1, z.2) = z := fun _ => rfl
  have eF : okFs [r, o] = (okF r.1 r.2 && okF o.1 o.2) := by unfold okFs; simp
  simp only [Tree.ok, tyd_inj, packAV, AV.same, AV.same.sameL, encV, encS, enc, inK, Nd.ok, List.headD_cons, List.cons_append, List.nil_append, List.append_nil, true_and, and_true, Bool.true_and, Bool.and_true, eta, eF, redR, decide_eq_true_eq, decide_eq_false_iff_not, List.length_cons, List.length_nil]
  cases h1 : okF r.1 r.2
  · simp
  cases h2 : okF o.1 o.2
  · simp
  have b2 := okF_bd h2
  simp only [Bool.and_self, Bool.not_true, Bool.false_eq_true, false_implies, true_implies, and_self, if_true]
  refine ⟨by omega, ?_⟩
  by_cases h4 : (r.1 : Int) ≤ 0
  · simp [h4]
  by_cases h6 : cmpB o (1, 1) ≤ 0
  · have h6' : cmpF o.1 o.2 1 1 ≤ 0 := h6
    simp [h4, h6, h6']
    try exact ⟨b2, by decide, by decide⟩
    try omega
  have h6' : ¬ cmpF o.1 o.2 1 1 ≤ 0 := h6
  have hr : PosF r := ⟨h1, Int.not_le.1 h4⟩
  have ho : OctF o := ⟨h2, by omega⟩
  simp [h4, h6, h6']
  try exact ⟨b2, hr, ho⟩
  try exact ⟨⟨b2, by decide, by decide⟩, hr, ho⟩
  try omega
def C_Ri_1 : FuncId → Option Ct := addC 62 ct_ReduceRatio C_RiB
theorem C_Ri_1_ok : COk Try.prog C_Ri_1 := addC_ok C_RiB_ok sat_ReduceRatio
def dkG (b o g n : (Int × Int) × Src) : tFrac.den × tFrac.den × tFrac.den × Int := (b.1, o.1, g.1, n.1.1)
def dsG (b o g : (Int × Int) × Src) (n : Int × Src) : tFrac.den × tFrac.den × tFrac.den × Int := (b.1, o.1, g.1, n.1)
def sCnt : List Int := [1, 2, 4, 5, 7, 12, 13, 24, 25, 0]
def sNum : List Int := [3, 3, 5, 7, 4, 2]
def sDen : List Int := [2, 2, 4, 3, 1]
def dsF (b o g : (Int × Int) × Src) : tFrac.den × tFrac.den × tFrac.den × Int := dsG b o g (amongS g.2 sCnt)
def dsE (b o : (Int × Int) × Src) (g : Fr) (p : Int × Src) : tFrac.den × tFrac.den × tFrac.den × Int := if p.1 = 0 then dsF b o (bentF p.2) else dsF b o (g, p.2)
def dsD (b o : (Int × Int) × Src) (g h : Int × Src) : tFrac.den × tFrac.den × tFrac.den × Int := dsE b o (mkF g.1 h.1).1 (pickS h.2 8)
def dsC (b o : (Int × Int) × Src) (g : Int × Src) : tFrac.den × tFrac.den × tFrac.den × Int := dsD b o g (amongS g.2 sDen)
def dsB (b o : (Int × Int) × Src) : tFrac.den × tFrac.den × tFrac.den × Int := dsC b o (amongS o.2 sNum)
def dsA (b : (Int × Int) × Src) (p : Int × Src) : tFrac.den × tFrac.den × tFrac.den × Int := if p.1 = 0 then dsB b (bentF p.2) else dsB b ((2, 1), p.2)
def ds1 (b : (Int × Int) × Src) : tFrac.den × tFrac.den × tFrac.den × Int := dsA b (pickS b.2 6)
def ds0 (s : Src) : tFrac.den × tFrac.den × tFrac.den × Int := ds1 (bentF s)
def dStack (l : List Int) : tFrac.den × tFrac.den × tFrac.den × Int := ds0 (l, 0, 0)
def ct_DrawStack : Ct := ctOf [.v (.seq (.int .u8))] (fun ((code : List (Ty.int .u8).den), _) => .p (bytesOk code)) (fun ((code : List (Ty.int .u8).den), _) => .tup [.agg (enc tFrac (dStack code).1), .agg (enc tFrac (dStack code).2.1), .agg (enc tFrac (dStack code).2.2.1), .int .i64 (dStack code).2.2.2])
set_option maxHeartbeats 1000000 in
theorem sat_DrawStack : Sat Try.prog 59 ct_DrawStack := by
  refine sat_typed (C := C_Ri_1) (L := noL) (wr := false) mixedOk Try.func59 C_Ri_1_ok (loops0 (by kernel_rfl)) (fun _ => by first | rfl | (simp [ownsOf, ownsOf.ownsL, enc, encV, encS])) fun x hp => ?_
  obtain ⟨(code : List (Ty.int .u8).den), _⟩ := x
  replace hp : bytesOk code := hp
  have htree : exFunc Try.prog C_Ri_1 false noL Try.f59 (encA [.v (.seq (.int .u8))] (code, ())) = .need (okS (code, (0 : I64.den), (0 : (Ty.int IntKind.u64).den)) (400000000 : Int)) (.need (okS (bentF (code, (0 : I64.den), (0 : (Ty.int IntKind.u64).den))).snd (900000000 : Int) ∧ (6 : Int) ≤ (1000000 : Int)) (.ite (decide ((pickS (bentF (code, (0 : I64.den), (0 : (Ty.int IntKind.u64).den))).snd (6 : Int)).fst = (0 : Int))) (.need (okS (pickS (bentF (code, (0 : I64.den), (0 : (Ty.int IntKind.u64).den))).snd (6 : Int)).snd (400000000 : Int)) (.need (okS (bentF (pickS (bentF (code, (0 : I64.den), (0 : (Ty.int IntKind.u64).den))).snd (6 : Int)).snd).snd (900000000 : Int) ∧ (1 : Int) ≤ (↑[(3 : Int), (3 : Int), (5 : Int), (7 : Int), (4 : Int), (2 : Int)].length : Int) ∧ (↑[(3 : Int), (3 : Int), (5 : Int), (7 : Int), (4 : Int), (2 : Int)].length : Int) ≤ (1000000 : Int)) (.need (okS (amongS (bentF (pickS (bentF (code, (0 : I64.den), (0 : (Ty.int IntKind.u64).den))).snd (6 : Int)).snd).snd [(3 : Int), (3 : Int), (5 : Int), (7 : Int), (4 : Int), (2 : Int)]).snd (900000000 : Int) ∧ (1 : Int) ≤ (↑[(2 : Int), (2 : Int), (4 : Int), (3 : Int), (1 : Int)].length : Int) ∧ (↑[(2 : Int), (2 : Int), (4 : Int), (3 : Int), (1 : Int)].length : Int) ≤ (1000000 : Int)) (.need (((-9223372036854775808 : Int) ≤ (amongS (bentF (pickS (bentF (code, (0 : I64.den), (0 : (Ty.int IntKind.u64).den))).snd (6 : Int)).snd).snd [(3 : Int), (3 : Int), (5 : Int), (7 : Int), (4 : Int), (2 : Int)]).fst ∧ (amongS (bentF (pickS (bentF (code, (0 : I64.den), (0 : (Ty.int IntKind.u64).den))).snd (6 : Int)).snd).snd [(3 : Int), (3 : Int), (5 : Int), (7 : Int), (4 : Int), (2 : Int)]).fst ≤ (9223372036854775807 : Int)) ∧ (-9223372036854775808 : Int) ≤ (amongS (amongS (bentF (pickS (bentF (code, (0 : I64.den), (0 : (Ty.int IntKind.u64).den))).snd (6 : Int)).snd).snd [(3 : Int), (3 : Int), (5 : Int), (7 : Int), (4 : Int), (2 : Int)]).snd [(2 : Int), (2 : Int), (4 : Int), (3 : Int), (1 : Int)]).fst ∧ (amongS (amongS (bentF (pickS (bentF (code, (0 : I64.den), (0 : (Ty.int IntKind.u64).den))).snd (6 : Int)).snd).snd [(3 : Int), (3 : Int), (5 : Int), (7 : Int), (4 : Int), (2 : Int)]).snd [(2 : Int), (2 : Int), (4 : Int), (3 : Int), (1 : Int)]).fst ≤ (9223372036854775807 : Int)) (.need (okS (amongS (amongS (bentF (pickS (bentF (code, (0 : I64.den), (0 : (Ty.int IntKind.u64).den))).snd (6 : Int)).snd).snd [(3 : Int), (3 : Int), (5 : Int), (7 : Int), (4 : Int), (2 : Int)]).snd [(2 : Int), (2 : Int), (4 : Int), (3 : Int), (1 : Int)]).snd (900000000 : Int) ∧ (8 : Int) ≤ (1000000 : Int)) (.ite (decide ((pickS (amongS (amongS (bentF (pickS (bentF (code, (0 : I64.den), (0 : (Ty.int IntKind.u64).den))).snd (6 : Int)).snd).snd [(3 : Int), (3 : Int), (5 : Int), (7 : Int), (4 : Int), (2 : Int)]).snd [(2 : Int), (2 : Int), (4 : Int), (3 : Int), (1 : Int)]).snd (8 : Int)).fst = (0 : Int))) (.need (okS (pickS (amongS (amongS (bentF (pickS (bentF (code, (0 : I64.den), (0 : (Ty.int IntKind.u64).den))).snd (6 : Int)).snd).snd [(3 : Int), (3 : Int), (5 : Int), (7 : Int), (4 : Int), (2 : Int)]).snd [(2 : Int), (2 : Int), (4 : Int), (3 : Int), (1 : Int)]).snd (8 : Int)).snd (400000000 : Int)) (.need (okS (bentF (pickS (amongS (amongS (bentF (pickS (bentF (code, (0 : I64.den), (0 : (Ty.int IntKind.u64).den))).snd (6 : Int)).snd).snd [(3 : Int), (3 : Int), (5 : Int), (7 : Int), (4 : Int), (2 : Int)]).snd [(2 : Int), (2 : Int), (4 : Int), (3 : Int), (1 : Int)]).snd (8 : Int)).snd).snd (900000000 : Int) ∧ (1 : Int) ≤ (↑[(1 : Int), (2 : Int), (4 : Int), (5 : Int), (7 : Int), (12 : Int), (13 : Int), (24 : Int), (25 : Int), (0 : Int)].length : Int) ∧ (↑[(1 : Int), (2 : Int), (4 : Int), (5 : Int), (7 : Int), (12 : Int), (13 : Int), (24 : Int), (25 : Int), (0 : Int)].length : Int) ≤ (1000000 : Int)) (.leaf [.agg [.int .i64 ((bentF (code, (0 : I64.den), (0 : (Ty.int IntKind.u64).den))).fst.fst), .int .i64 ((bentF (code, (0 : I64.den), (0 : (Ty.int IntKind.u64).den))).fst.snd)], .agg [.int .i64 ((bentF (pickS (bentF (code, (0 : I64.den), (0 : (Ty.int IntKind.u64).den))).snd (6 : Int)).snd).fst.fst), .int .i64 ((bentF (pickS (bentF (code, (0 : I64.den), (0 : (Ty.int IntKind.u64).den))).snd (6 : Int)).snd).fst.snd)], .agg [.int .i64 ((bentF (pickS (amongS (amongS (bentF (pickS (bentF (code, (0 : I64.den), (0 : (Ty.int IntKind.u64).den))).snd (6 : Int)).snd).snd [(3 : Int), (3 : Int), (5 : Int), (7 : Int), (4 : Int), (2 : Int)]).snd [(2 : Int), (2 : Int), (4 : Int), (3 : Int), (1 : Int)]).snd (8 : Int)).snd).fst.fst), .int .i64 ((bentF (pickS (amongS (amongS (bentF (pickS (bentF (code, (0 : I64.den), (0 : (Ty.int IntKind.u64).den))).snd (6 : Int)).snd).snd [(3 : Int), (3 : Int), (5 : Int), (7 : Int), (4 : Int), (2 : Int)]).snd [(2 : Int), (2 : Int), (4 : Int), (3 : Int), (1 : Int)]).snd (8 : Int)).snd).fst.snd)], .int .i64 ((amongS (bentF (pickS (amongS (amongS (bentF (pickS (bentF (code, (0 : I64.den), (0 : (Ty.int IntKind.u64).den))).snd (6 : Int)).snd).snd [(3 : Int), (3 : Int), (5 : Int), (7 : Int), (4 : Int), (2 : Int)]).snd [(2 : Int), (2 : Int), (4 : Int), (3 : Int), (1 : Int)]).snd (8 : Int)).snd).snd [(1 : Int), (2 : Int), (4 : Int), (5 : Int), (7 : Int), (12 : Int), (13 : Int), (24 : Int), (25 : Int), (0 : Int)]).fst)]))) (.need (okS (pickS (amongS (amongS (bentF (pickS (bentF (code, (0 : I64.den), (0 : (Ty.int IntKind.u64).den))).snd (6 : Int)).snd).snd [(3 : Int), (3 : Int), (5 : Int), (7 : Int), (4 : Int), (2 : Int)]).snd [(2 : Int), (2 : Int), (4 : Int), (3 : Int), (1 : Int)]).snd (8 : Int)).snd (900000000 : Int) ∧ (1 : Int) ≤ (↑[(1 : Int), (2 : Int), (4 : Int), (5 : Int), (7 : Int), (12 : Int), (13 : Int), (24 : Int), (25 : Int), (0 : Int)].length : Int) ∧ (↑[(1 : Int), (2 : Int), (4 : Int), (5 : Int), (7 : Int), (12 : Int), (13 : Int), (24 : Int), (25 : Int), (0 : Int)].length : Int) ≤ (1000000 : Int)) (.leaf [.agg [.int .i64 ((bentF (code, (0 : I64.den), (0 : (Ty.int IntKind.u64).den))).fst.fst), .int .i64 ((bentF (code, (0 : I64.den), (0 : (Ty.int IntKind.u64).den))).fst.snd)], .agg [.int .i64 ((bentF (pickS (bentF (code, (0 : I64.den), (0 : (Ty.int IntKind.u64).den))).snd (6 : Int)).snd).fst.fst), .int .i64 ((bentF (pickS (bentF (code, (0 : I64.den), (0 : (Ty.int IntKind.u64).den))).snd (6 : Int)).snd).fst.snd)], .agg [.int .i64 ((mkF (amongS (bentF (pickS (bentF (code, (0 : I64.den), (0 : (Ty.int IntKind.u64).den))).snd (6 : Int)).snd).snd [(3 : Int), (3 : Int), (5 : Int), (7 : Int), (4 : Int), (2 : Int)]).fst (amongS (amongS (bentF (pickS (bentF (code, (0 : I64.den), (0 : (Ty.int IntKind.u64).den))).snd (6 : Int)).snd).snd [(3 : Int), (3 : Int), (5 : Int), (7 : Int), (4 : Int), (2 : Int)]).snd [(2 : Int), (2 : Int), (4 : Int), (3 : Int), (1 : Int)]).fst).fst.fst), .int .i64 ((mkF (amongS (bentF (pickS (bentF (code, (0 : I64.den), (0 : (Ty.int IntKind.u64).den))).snd (6 : Int)).snd).snd [(3 : Int), (3 : Int), (5 : Int), (7 : Int), (4 : Int), (2 : Int)]).fst (amongS (amongS (bentF (pickS (bentF (code, (0 : I64.den), (0 : (Ty.int IntKind.u64).den))).snd (6 : Int)).snd).snd [(3 : Int), (3 : Int), (5 : Int), (7 : Int), (4 : Int), (2 : Int)]).snd [(2 : Int), (2 : Int), (4 : Int), (3 : Int), (1 : Int)]).fst).fst.snd)], .int .i64 ((amongS (pickS (amongS (amongS (bentF (pickS (bentF (code, (0 : I64.den), (0 : (Ty.int IntKind.u64).den))).snd (6 : Int)).snd).snd [(3 : Int), (3 : Int), (5 : Int), (7 : Int), (4 : Int), (2 : Int)]).snd [(2 : Int), (2 : Int), (4 : Int), (3 : Int), (1 : Int)]).snd (8 : Int)).snd [(1 : Int), (2 : Int), (4 : Int), (5 : Int), (7 : Int), (12 : Int), (13 : Int), (24 : Int), (25 : Int), (0 : Int)]).fst)])))))))) (.need (okS (pickS (bentF (code, (0 : I64.den), (0 : (Ty.int IntKind.u64).den))).snd (6 : Int)).snd (900000000 : Int) ∧ (1 : Int) ≤ (↑[(3 : Int), (3 : Int), (5 : Int), (7 : Int), (4 : Int), (2 : Int)].length : Int) ∧ (↑[(3 : Int), (3 : Int), (5 : Int), (7 : Int), (4 : Int), (2 : Int)].length : Int) ≤ (1000000 : Int)) (.need (okS (amongS (pickS (bentF (code, (0 : I64.den), (0 : (Ty.int IntKind.u64).den))).snd (6 : Int)).snd [(3 : Int), (3 : Int), (5 : Int), (7 : Int), (4 : Int), (2 : Int)]).snd (900000000 : Int) ∧ (1 : Int) ≤ (↑[(2 : Int), (2 : Int), (4 : Int), (3 : Int), (1 : Int)].length : Int) ∧ (↑[(2 : Int), (2 : Int), (4 : Int), (3 : Int), (1 : Int)].length : Int) ≤ (1000000 : Int)) (.need (((-9223372036854775808 : Int) ≤ (amongS (pickS (bentF (code, (0 : I64.den), (0 : (Ty.int IntKind.u64).den))).snd (6 : Int)).snd [(3 : Int), (3 : Int), (5 : Int), (7 : Int), (4 : Int), (2 : Int)]).fst ∧ (amongS (pickS (bentF (code, (0 : I64.den), (0 : (Ty.int IntKind.u64).den))).snd (6 : Int)).snd [(3 : Int), (3 : Int), (5 : Int), (7 : Int), (4 : Int), (2 : Int)]).fst ≤ (9223372036854775807 : Int)) ∧ (-9223372036854775808 : Int) ≤ (amongS (amongS (pickS (bentF (code, (0 : I64.den), (0 : (Ty.int IntKind.u64).den))).snd (6 : Int)).snd [(3 : Int), (3 : Int), (5 : Int), (7 : Int), (4 : Int), (2 : Int)]).snd [(2 : Int), (2 : Int), (4 : Int), (3 : Int), (1 : Int)]).fst ∧ (amongS (amongS (pickS (bentF (code, (0 : I64.den), (0 : (Ty.int IntKind.u64).den))).snd (6 : Int)).snd [(3 : Int), (3 : Int), (5 : Int), (7 : Int), (4 : Int), (2 : Int)]).snd [(2 : Int), (2 : Int), (4 : Int), (3 : Int), (1 : Int)]).fst ≤ (9223372036854775807 : Int)) (.need (okS (amongS (amongS (pickS (bentF (code, (0 : I64.den), (0 : (Ty.int IntKind.u64).den))).snd (6 : Int)).snd [(3 : Int), (3 : Int), (5 : Int), (7 : Int), (4 : Int), (2 : Int)]).snd [(2 : Int), (2 : Int), (4 : Int), (3 : Int), (1 : Int)]).snd (900000000 : Int) ∧ (8 : Int) ≤ (1000000 : Int)) (.ite (decide ((pickS (amongS (amongS (pickS (bentF (code, (0 : I64.den), (0 : (Ty.int IntKind.u64).den))).snd (6 : Int)).snd [(3 : Int), (3 : Int), (5 : Int), (7 : Int), (4 : Int), (2 : Int)]).snd [(2 : Int), (2 : Int), (4 : Int), (3 : Int), (1 : Int)]).snd (8 : Int)).fst = (0 : Int))) (.need (okS (pickS (amongS (amongS (pickS (bentF (code, (0 : I64.den), (0 : (Ty.int IntKind.u64).den))).snd (6 : Int)).snd [(3 : Int), (3 : Int), (5 : Int), (7 : Int), (4 : Int), (2 : Int)]).snd [(2 : Int), (2 : Int), (4 : Int), (3 : Int), (1 : Int)]).snd (8 : Int)).snd (400000000 : Int)) (.need (okS (bentF (pickS (amongS (amongS (pickS (bentF (code, (0 : I64.den), (0 : (Ty.int IntKind.u64).den))).snd (6 : Int)).snd [(3 : Int), (3 : Int), (5 : Int), (7 : Int), (4 : Int), (2 : Int)]).snd [(2 : Int), (2 : Int), (4 : Int), (3 : Int), (1 : Int)]).snd (8 : Int)).snd).snd (900000000 : Int) ∧ (1 : Int) ≤ (↑[(1 : Int), (2 : Int), (4 : Int), (5 : Int), (7 : Int), (12 : Int), (13 : Int), (24 : Int), (25 : Int), (0 : Int)].length : Int) ∧ (↑[(1 : Int), (2 : Int), (4 : Int), (5 : Int), (7 : Int), (12 : Int), (13 : Int), (24 : Int), (25 : Int), (0 : Int)].length : Int) ≤ (1000000 : Int)) (.leaf [.agg [.int .i64 ((bentF (code, (0 : I64.den), (0 : (Ty.int IntKind.u64).den))).fst.fst), .int .i64 ((bentF (code, (0 : I64.den), (0 : (Ty.int IntKind.u64).den))).fst.snd)], .agg [.int .i64 ((2 : Int)), .int .i64 ((1 : Int))], .agg [.int .i64 ((bentF (pickS (amongS (amongS (pickS (bentF (code, (0 : I64.den), (0 : (Ty.int IntKind.u64).den))).snd (6 : Int)).snd [(3 : Int), (3 : Int), (5 : Int), (7 : Int), (4 : Int), (2 : Int)]).snd [(2 : Int), (2 : Int), (4 : Int), (3 : Int), (1 : Int)]).snd (8 : Int)).snd).fst.fst), .int .i64 ((bentF (pickS (amongS (amongS (pickS (bentF (code, (0 : I64.den), (0 : (Ty.int IntKind.u64).den))).snd (6 : Int)).snd [(3 : Int), (3 : Int), (5 : Int), (7 : Int), (4 : Int), (2 : Int)]).snd [(2 : Int), (2 : Int), (4 : Int), (3 : Int), (1 : Int)]).snd (8 : Int)).snd).fst.snd)], .int .i64 ((amongS (bentF (pickS (amongS (amongS (pickS (bentF (code, (0 : I64.den), (0 : (Ty.int IntKind.u64).den))).snd (6 : Int)).snd [(3 : Int), (3 : Int), (5 : Int), (7 : Int), (4 : Int), (2 : Int)]).snd [(2 : Int), (2 : Int), (4 : Int), (3 : Int), (1 : Int)]).snd (8 : Int)).snd).snd [(1 : Int), (2 : Int), (4 : Int), (5 : Int), (7 : Int), (12 : Int), (13 : Int), (24 : Int), (25 : Int), (0 : Int)]).fst)]))) (.need (okS (pickS (amongS (amongS (pickS (bentF (code, (0 : I64.den), (0 : (Ty.int IntKind.u64).den))).snd (6 : Int)).snd [(3 : Int), (3 : Int), (5 : Int), (7 : Int), (4 : Int), (2 : Int)]).snd [(2 : Int), (2 : Int), (4 : Int), (3 : Int), (1 : Int)]).snd (8 : Int)).snd (900000000 : Int) ∧ (1 : Int) ≤ (↑[(1 : Int), (2 : Int), (4 : Int), (5 : Int), (7 : Int), (12 : Int), (13 : Int), (24 : Int), (25 : Int), (0 : Int)].length : Int) ∧ (↑[(1 : Int), (2 : Int), (4 : Int), (5 : Int), (7 : Int), (12 : Int), (13 : Int), (24 : Int), (25 : Int), (0 : Int)].length : Int) ≤ (1000000 : Int)) (.leaf [.agg [.int .i64 ((bentF (code, (0 : I64.den), (0 : (Ty.int IntKind.u64).den))).fst.fst), .int .i64 ((bentF (code, (0 : I64.den), (0 : (Ty.int IntKind.u64).den))).fst.snd)], .agg [.int .i64 ((2 : Int)), .int .i64 ((1 : Int))], .agg [.int .i64 ((mkF (amongS (pickS (bentF (code, (0 : I64.den), (0 : (Ty.int IntKind.u64).den))).snd (6 : Int)).snd [(3 : Int), (3 : Int), (5 : Int), (7 : Int), (4 : Int), (2 : Int)]).fst (amongS (amongS (pickS (bentF (code, (0 : I64.den), (0 : (Ty.int IntKind.u64).den))).snd (6 : Int)).snd [(3 : Int), (3 : Int), (5 : Int), (7 : Int), (4 : Int), (2 : Int)]).snd [(2 : Int), (2 : Int), (4 : Int), (3 : Int), (1 : Int)]).fst).fst.fst), .int .i64 ((mkF (amongS (pickS (bentF (code, (0 : I64.den), (0 : (Ty.int IntKind.u64).den))).snd (6 : Int)).snd [(3 : Int), (3 : Int), (5 : Int), (7 : Int), (4 : Int), (2 : Int)]).fst (amongS (amongS (pickS (bentF (code, (0 : I64.den), (0 : (Ty.int IntKind.u64).den))).snd (6 : Int)).snd [(3 : Int), (3 : Int), (5 : Int), (7 : Int), (4 : Int), (2 : Int)]).snd [(2 : Int), (2 : Int), (4 : Int), (3 : Int), (1 : Int)]).fst).fst.snd)], .int .i64 ((amongS (pickS (amongS (amongS (pickS (bentF (code, (0 : I64.den), (0 : (Ty.int IntKind.u64).den))).snd (6 : Int)).snd [(3 : Int), (3 : Int), (5 : Int), (7 : Int), (4 : Int), (2 : Int)]).snd [(2 : Int), (2 : Int), (4 : Int), (3 : Int), (1 : Int)]).snd (8 : Int)).snd [(1 : Int), (2 : Int), (4 : Int), (5 : Int), (7 : Int), (12 : Int), (13 : Int), (24 : Int), (25 : Int), (0 : Int)]).fst)]))))))))) := by kernel_rfl
  refine (congrArg (Tree.ok _) htree).mpr ?_
  clear htree
  have h0 := from_ok hp
  have eC : ([1, 2, 4, 5, 7, 12, 13, 24, 25, 0] : List Int) = sCnt := rfl
  have eN : ([3, 3, 5, 7, 4, 2] : List Int) = sNum := rfl
  have eD : ([2, 2, 4, 3, 1] : List Int) = sDen := rfl
  have lC : sCnt.length = 10 := rfl
  have lN : sNum.length = 6 := rfl
  have lD : sDen.length = 5 := rfl
  have h1 := bentF_ok h0
  simp only [Tree.ok, tyd_inj, packAV, AV.same, AV.same.sameL, encV, encS, enc, inK, Nd.ok, List.headD_cons, List.cons_append, List.nil_append, List.append_nil, true_and, and_true, Bool.true_and, Bool.and_true, eC, eN, eD, lC, lN, lD, decide_eq_true_eq, decide_eq_false_iff_not, bne_iff_ne, ne_eq, bne_eq_false_iff_eq, beq_iff_eq, beq_eq_false_iff_ne]
  rw [show dStack code = ds1 (bentF (code, 0, 0)) from rfl]
  generalize bentF (code, 0, 0) = d1 at *
  rw [show ds1 d1 = dsA d1 (pickS d1.2 6) from rfl]
  have h2 := pickS_ok h1 6
  generalize pickS d1.2 6 = d2 at *
  refine ⟨h0.mono (by omega), ⟨h1.mono (by omega), by decide⟩, fun hz => ?_, fun hz => ?_⟩
  · rw [show dsA d1 d2 = dsB d1 (bentF d2.2) from if_pos hz]
    refine ⟨h2.mono (by omega), ?_⟩
    have h3 := bentF_ok h2
    generalize bentF d2.2 = d3 at *
    rw [show dsB d1 d3 = dsC d1 d3 (amongS d3.2 sNum) from rfl]
    have m4 := amongS_mem h3 sNum (by decide)
    have h4 := amongS_ok h3 sNum
    generalize amongS d3.2 sNum = d4 at *
    rw [show dsC d1 d3 d4 = dsD d1 d3 d4 (amongS d4.2 sDen) from rfl]
    have m5 := amongS_mem h4 sDen (by decide)
    have h5 := amongS_ok h4 sDen
    generalize amongS d4.2 sDen = d5 at *
    rw [show dsD d1 d3 d4 d5 = dsE d1 d3 (mkF d4.1 d5.1).1 (pickS d5.2 8) from rfl]
    have h6 := pickS_ok h5 8
    generalize pickS d5.2 8 = d6 at *
    simp only [sNum, sDen, List.mem_cons, List.not_mem_nil, or_false] at m4 m5
    refine ⟨⟨h3.mono (by omega), by decide, by decide⟩, ⟨h4.mono (by omega), by decide, by decide⟩, ⟨by omega, by omega⟩, ⟨h5.mono (by omega), by decide⟩, fun hg => ?_, fun hg => ?_⟩
    · rw [show dsE d1 d3 (mkF d4.1 d5.1).1 d6 = dsF d1 d3 (bentF d6.2) from if_pos hg]
      have h7 := bentF_ok h6
      generalize bentF d6.2 = d7 at *
      exact ⟨h6.mono (by omega), ⟨h7.mono (by omega), by decide, by decide⟩, ⟨rfl, rfl⟩, ⟨rfl, rfl⟩, ⟨rfl, rfl⟩, rfl⟩
    · rw [show dsE d1 d3 (mkF d4.1 d5.1).1 d6 = dsF d1 d3 ((mkF d4.1 d5.1).1, d6.2) from if_neg hg]
      exact ⟨⟨h6.mono (by omega), by decide, by decide⟩, ⟨rfl, rfl⟩, ⟨rfl, rfl⟩, ⟨rfl, rfl⟩, rfl⟩
  · rw [show dsA d1 d2 = dsB d1 ((2, 1), d2.2) from if_neg hz]
    have h3 := h2
    rw [show dsB d1 ((2, 1), d2.2) = dsC d1 ((2, 1), d2.2) (amongS d2.2 sNum) from rfl]
    have m4 := amongS_mem h3 sNum (by decide)
    have h4 := amongS_ok h3 sNum
    generalize amongS d2.2 sNum = d4 at *
    rw [show dsC d1 ((2, 1), d2.2) d4 = dsD d1 ((2, 1), d2.2) d4 (amongS d4.2 sDen) from rfl]
    have m5 := amongS_mem h4 sDen (by decide)
    have h5 := amongS_ok h4 sDen
    generalize amongS d4.2 sDen = d5 at *
    rw [show dsD d1 ((2, 1), d2.2) d4 d5 = dsE d1 ((2, 1), d2.2) (mkF d4.1 d5.1).1 (pickS d5.2 8) from rfl]
    have h6 := pickS_ok h5 8
    generalize pickS d5.2 8 = d6 at *
    simp only [sNum, sDen, List.mem_cons, List.not_mem_nil, or_false] at m4 m5
    refine ⟨⟨h3.mono (by omega), by decide, by decide⟩, ⟨h4.mono (by omega), by decide, by decide⟩, ⟨by omega, by omega⟩, ⟨h5.mono (by omega), by decide⟩, fun hg => ?_, fun hg => ?_⟩
    · rw [show dsE d1 ((2, 1), d2.2) (mkF d4.1 d5.1).1 d6 = dsF d1 ((2, 1), d2.2) (bentF d6.2) from if_pos hg]
      have h7 := bentF_ok h6
      generalize bentF d6.2 = d7 at *
      exact ⟨h6.mono (by omega), ⟨h7.mono (by omega), by decide, by decide⟩, ⟨rfl, rfl⟩, ⟨rfl, rfl⟩, ⟨rfl, rfl⟩, rfl⟩
    · rw [show dsE d1 ((2, 1), d2.2) (mkF d4.1 d5.1).1 d6 = dsF d1 ((2, 1), d2.2) ((mkF d4.1 d5.1).1, d6.2) from if_neg hg]
      exact ⟨⟨h6.mono (by omega), by decide, by decide⟩, ⟨rfl, rfl⟩, ⟨rfl, rfl⟩, ⟨rfl, rfl⟩, rfl⟩
def C_Ri_2 : FuncId → Option Ct := addC 59 ct_DrawStack C_Ri_1
theorem C_Ri_2_ok : COk Try.prog C_Ri_2 := addC_ok C_Ri_1_ok sat_DrawStack

def C_Ri : FuncId → Option Ct := C_Ri_2
theorem C_Ri_ok : COk Try.prog C_Ri := C_Ri_2_ok
end Go.Proofs.Ytjgjcggecikdpaa
