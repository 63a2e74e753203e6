/- Contracts: sums, differences, products, quotients of fractions, their order, beats, notes; the program and the reference. Conditions: as each says. -/
import Derived.Test.YtemlpimibhijoaaFc
set_option linter.unusedSimpArgs false
set_option linter.unusedVariables false
namespace Go.Proofs.Ytemlpimibhijoaa
open Go.RowKit Sx
set_option maxRecDepth 100000
set_option maxHeartbeats 1000000
def opF (n d : Int) (ok : Bool) : (Int × Int) × Int := if ok = true then mkF n d else ((0, 0), 1)
def addF (a b c d : Int) : (Int × Int) × Int := opF (a * d + c * b) (b * d) (okF a b && okF c d)
def subF (a b c d : Int) : (Int × Int) × Int := opF (a * d - c * b) (b * d) (okF a b && okF c d)
def mulF (a b c d : Int) : (Int × Int) × Int := opF (a * c) (b * d) (okF a b && okF c d)
def divF (a b c d : Int) : (Int × Int) × Int := if okF a b = true ∧ okF c d = true then (if c = 0 then ((0, 0), 2) else mkF (a * d) (b * c)) else ((0, 0), 1)
def ct_iAddFrac : Ct := ctOf [.s tFrac, .s tFrac] (fun _ => .tt) (fun (((a : Int), (b : Int)), ((c : Int), (d : Int)), _) => .tup [.agg (enc tFrac (addF a b c d).1), .int .i64 (addF a b c d).2])
set_option maxHeartbeats 1000000 in
theorem sat_iAddFrac : Sat Try.prog 76 ct_iAddFrac := by
  refine sat_typed (C := C_Fc) (L := noL) (wr := false) mixedOk Try.func76 C_Fc_ok (loops0 (by kernel_rfl)) (fun _ => by first | rfl | (simp [ownsOf, ownsOf.ownsL, enc, encV, encS])) fun x hp => ?_
  obtain ⟨⟨(a : Int), (b : Int)⟩, ⟨(c : Int), (d : Int)⟩, _⟩ := x
  clear hp
  have htree : exFunc Try.prog C_Fc false noL Try.f76 (encA [.s tFrac, .s tFrac] ((a, b), (c, d), ())) = .need ((↑[(a, b), (c, d)].length : Int) ≤ (9223372036854775807 : Int)) (.ite (!okFs [(a, b), (c, d)]) (.leaf [.agg [.int .i64 ((0 : Int)), .int .i64 ((0 : Int))], .int .i64 ((1 : Int))]) (.need (inK IntKind.i64 (a * d)) (.need (inK IntKind.i64 (c * b)) (.need (inK IntKind.i64 (a * d + c * b)) (.need (inK IntKind.i64 (b * d)) (.need (((-9223372036854775808 : Int) ≤ a * d + c * b ∧ a * d + c * b ≤ (9223372036854775807 : Int)) ∧ (-9223372036854775808 : Int) ≤ b * d ∧ b * d ≤ (9223372036854775807 : Int)) (.leaf [.agg [.int .i64 ((mkF (a * d + c * b) (b * d)).fst.fst), .int .i64 ((mkF (a * d + c * b) (b * d)).fst.snd)], .int .i64 ((mkF (a * d + c * b) (b * d)).snd)]))))))) := by kernel_rfl
  refine (congrArg (Tree.ok _) htree).mpr ?_
  clear htree
  simp only [Tree.ok, tyd_inj, packAV, AV.same, AV.same.sameL, encV, encS, enc, inK, Nd.ok, List.headD_cons, List.cons_append, List.nil_append, List.append_nil, true_and, and_true, Bool.true_and, Bool.and_true, okFs, List.all_cons, List.all_nil, List.length_cons, List.length_nil, addF]
  have h1 := @okF_bd a b
  have h2 := @okF_bd c d
  have h3 : okF a b = true → okF c d = true → (-1000000000000000 ≤ a * d ∧ a * d ≤ 1000000000000000) ∧ (-1000000000000000 ≤ c * b ∧ c * b ≤ 1000000000000000) ∧ (1 ≤ b * d ∧ b * d ≤ 1000000000000) ∧ (-1000000000000000000 ≤ a * c ∧ a * c ≤ 1000000000000000000) ∧ (-1000000000000000 ≤ b * c ∧ b * c ≤ 1000000000000000) := fun g1 g2 =>
    have h1 := h1 g1
    have h2 := h2 g2
    ⟨mul_bd h1.2 h2.1, mul_bd h2.2 h1.1, mul_bd2 h1.1 h2.1, mul_bd3 h1.2 h2.2, Int.mul_comm c b ▸ mul_bd h2.2 h1.1⟩
  generalize a * d = m1 at *
  generalize c * b = m2 at *
  generalize b * d = m3 at *
  generalize a * c = m4 at *
  generalize b * c = m5 at *
  clear h1 h2
  repeat' first | apply And.intro | intro _
  all_goals first | omega | grind [opF]
def C_Fd_1 : FuncId → Option Ct := addC 76 ct_iAddFrac C_Fc
theorem C_Fd_1_ok : COk Try.prog C_Fd_1 := addC_ok C_Fc_ok sat_iAddFrac
def ct_sAddFrac : Ct := ctOf [.s tFrac, .s tFrac] (fun _ => .tt) (fun (((a : Int), (b : Int)), ((c : Int), (d : Int)), _) => .tup [.agg (enc tFrac (addF a b c d).1), .int .i64 (addF a b c d).2])
set_option maxHeartbeats 1000000 in
theorem sat_sAddFrac : Sat Try.prog 68 ct_sAddFrac := by
  refine sat_typed (C := C_Fd_1) (L := noL) (wr := false) mixedOk Try.func68 C_Fd_1_ok (loops0 (by kernel_rfl)) (fun _ => by first | rfl | (simp [ownsOf, ownsOf.ownsL, enc, encV, encS])) fun x hp => ?_
  obtain ⟨⟨(a : Int), (b : Int)⟩, ⟨(c : Int), (d : Int)⟩, _⟩ := x
  clear hp
  have htree : exFunc Try.prog C_Fd_1 false noL Try.f68 (encA [.s tFrac, .s tFrac] ((a, b), (c, d), ())) = .ite (!okF a b) (.leaf [.agg [.int .i64 ((0 : Int)), .int .i64 ((0 : Int))], .int .i64 ((1 : Int))]) (.ite (!okF c d) (.leaf [.agg [.int .i64 ((0 : Int)), .int .i64 ((0 : Int))], .int .i64 ((1 : Int))]) (.need (inK IntKind.i64 (a * d)) (.need (inK IntKind.i64 (c * b)) (.need (inK IntKind.i64 (a * d + c * b)) (.need (inK IntKind.i64 (b * d)) (.need (((-9223372036854775808 : Int) ≤ a * d + c * b ∧ a * d + c * b ≤ (9223372036854775807 : Int)) ∧ (-9223372036854775808 : Int) ≤ b * d ∧ b * d ≤ (9223372036854775807 : Int)) (.leaf [.agg [.int .i64 ((mkF (a * d + c * b) (b * d)).fst.fst), .int .i64 ((mkF (a * d + c * b) (b * d)).fst.snd)], .int .i64 ((mkF (a * d + c * b) (b * d)).snd)]))))))) := by kernel_rfl
  refine (congrArg (Tree.ok _) htree).mpr ?_
  clear htree
  simp only [Tree.ok, tyd_inj, packAV, AV.same, AV.same.sameL, encV, encS, enc, inK, Nd.ok, List.headD_cons, List.cons_append, List.nil_append, List.append_nil, true_and, and_true, Bool.true_and, Bool.and_true, okFs, List.all_cons, List.all_nil, List.length_cons, List.length_nil, addF]
  have h1 := @okF_bd a b
  have h2 := @okF_bd c d
  have h3 : okF a b = true → okF c d = true → (-1000000000000000 ≤ a * d ∧ a * d ≤ 1000000000000000) ∧ (-1000000000000000 ≤ c * b ∧ c * b ≤ 1000000000000000) ∧ (1 ≤ b * d ∧ b * d ≤ 1000000000000) ∧ (-1000000000000000000 ≤ a * c ∧ a * c ≤ 1000000000000000000) ∧ (-1000000000000000 ≤ b * c ∧ b * c ≤ 1000000000000000) := fun g1 g2 =>
    have h1 := h1 g1
    have h2 := h2 g2
    ⟨mul_bd h1.2 h2.1, mul_bd h2.2 h1.1, mul_bd2 h1.1 h2.1, mul_bd3 h1.2 h2.2, Int.mul_comm c b ▸ mul_bd h2.2 h1.1⟩
  generalize a * d = m1 at *
  generalize c * b = m2 at *
  generalize b * d = m3 at *
  generalize a * c = m4 at *
  generalize b * c = m5 at *
  clear h1 h2
  repeat' first | apply And.intro | intro _
  all_goals first | omega | grind [opF]
def C_Fd_2 : FuncId → Option Ct := addC 68 ct_sAddFrac C_Fd_1
theorem C_Fd_2_ok : COk Try.prog C_Fd_2 := addC_ok C_Fd_1_ok sat_sAddFrac
def ct_iSubFrac : Ct := ctOf [.s tFrac, .s tFrac] (fun _ => .tt) (fun (((a : Int), (b : Int)), ((c : Int), (d : Int)), _) => .tup [.agg (enc tFrac (subF a b c d).1), .int .i64 (subF a b c d).2])
set_option maxHeartbeats 1000000 in
theorem sat_iSubFrac : Sat Try.prog 60 ct_iSubFrac := by
  refine sat_typed (C := C_Fd_2) (L := noL) (wr := false) mixedOk Try.func60 C_Fd_2_ok (loops0 (by kernel_rfl)) (fun _ => by first | rfl | (simp [ownsOf, ownsOf.ownsL, enc, encV, encS])) fun x hp => ?_
  obtain ⟨⟨(a : Int), (b : Int)⟩, ⟨(c : Int), (d : Int)⟩, _⟩ := x
  clear hp
  have htree : exFunc Try.prog C_Fd_2 false noL Try.f60 (encA [.s tFrac, .s tFrac] ((a, b), (c, d), ())) = .need ((↑[(a, b), (c, d)].length : Int) ≤ (9223372036854775807 : Int)) (.ite (!okFs [(a, b), (c, d)]) (.leaf [.agg [.int .i64 ((0 : Int)), .int .i64 ((0 : Int))], .int .i64 ((1 : Int))]) (.need (inK IntKind.i64 (a * d)) (.need (inK IntKind.i64 (c * b)) (.need (inK IntKind.i64 (a * d - c * b)) (.need (inK IntKind.i64 (b * d)) (.need (((-9223372036854775808 : Int) ≤ a * d - c * b ∧ a * d - c * b ≤ (9223372036854775807 : Int)) ∧ (-9223372036854775808 : Int) ≤ b * d ∧ b * d ≤ (9223372036854775807 : Int)) (.leaf [.agg [.int .i64 ((mkF (a * d - c * b) (b * d)).fst.fst), .int .i64 ((mkF (a * d - c * b) (b * d)).fst.snd)], .int .i64 ((mkF (a * d - c * b) (b * d)).snd)]))))))) := by kernel_rfl
  refine (congrArg (Tree.ok _) htree).mpr ?_
  clear htree
  simp only [Tree.ok, tyd_inj, packAV, AV.same, AV.same.sameL, encV, encS, enc, inK, Nd.ok, List.headD_cons, List.cons_append, List.nil_append, List.append_nil, true_and, and_true, Bool.true_and, Bool.and_true, okFs, List.all_cons, List.all_nil, List.length_cons, List.length_nil, subF]
  have h1 := @okF_bd a b
  have h2 := @okF_bd c d
  have h3 : okF a b = true → okF c d = true → (-1000000000000000 ≤ a * d ∧ a * d ≤ 1000000000000000) ∧ (-1000000000000000 ≤ c * b ∧ c * b ≤ 1000000000000000) ∧ (1 ≤ b * d ∧ b * d ≤ 1000000000000) ∧ (-1000000000000000000 ≤ a * c ∧ a * c ≤ 1000000000000000000) ∧ (-1000000000000000 ≤ b * c ∧ b * c ≤ 1000000000000000) := fun g1 g2 =>
    have h1 := h1 g1
    have h2 := h2 g2
    ⟨mul_bd h1.2 h2.1, mul_bd h2.2 h1.1, mul_bd2 h1.1 h2.1, mul_bd3 h1.2 h2.2, Int.mul_comm c b ▸ mul_bd h2.2 h1.1⟩
  generalize a * d = m1 at *
  generalize c * b = m2 at *
  generalize b * d = m3 at *
  generalize a * c = m4 at *
  generalize b * c = m5 at *
  clear h1 h2
  repeat' first | apply And.intro | intro _
  all_goals first | omega | grind [opF]
def C_Fd_3 : FuncId → Option Ct := addC 60 ct_iSubFrac C_Fd_2
theorem C_Fd_3_ok : COk Try.prog C_Fd_3 := addC_ok C_Fd_2_ok sat_iSubFrac
def ct_sSubFrac : Ct := ctOf [.s tFrac, .s tFrac] (fun _ => .tt) (fun (((a : Int), (b : Int)), ((c : Int), (d : Int)), _) => .tup [.agg (enc tFrac (subF a b c d).1), .int .i64 (subF a b c d).2])
set_option maxHeartbeats 1000000 in
theorem sat_sSubFrac : Sat Try.prog 51 ct_sSubFrac := by
  refine sat_typed (C := C_Fd_3) (L := noL) (wr := false) mixedOk Try.func51 C_Fd_3_ok (loops0 (by kernel_rfl)) (fun _ => by first | rfl | (simp [ownsOf, ownsOf.ownsL, enc, encV, encS])) fun x hp => ?_
  obtain ⟨⟨(a : Int), (b : Int)⟩, ⟨(c : Int), (d : Int)⟩, _⟩ := x
  clear hp
  have htree : exFunc Try.prog C_Fd_3 false noL Try.f51 (encA [.s tFrac, .s tFrac] ((a, b), (c, d), ())) = .ite (!okF a b) (.leaf [.agg [.int .i64 ((0 : Int)), .int .i64 ((0 : Int))], .int .i64 ((1 : Int))]) (.ite (!okF c d) (.leaf [.agg [.int .i64 ((0 : Int)), .int .i64 ((0 : Int))], .int .i64 ((1 : Int))]) (.need (inK IntKind.i64 (a * d)) (.need (inK IntKind.i64 (c * b)) (.need (inK IntKind.i64 (a * d - c * b)) (.need (inK IntKind.i64 (b * d)) (.need (((-9223372036854775808 : Int) ≤ a * d - c * b ∧ a * d - c * b ≤ (9223372036854775807 : Int)) ∧ (-9223372036854775808 : Int) ≤ b * d ∧ b * d ≤ (9223372036854775807 : Int)) (.leaf [.agg [.int .i64 ((mkF (a * d - c * b) (b * d)).fst.fst), .int .i64 ((mkF (a * d - c * b) (b * d)).fst.snd)], .int .i64 ((mkF (a * d - c * b) (b * d)).snd)]))))))) := by kernel_rfl
  refine (congrArg (Tree.ok _) htree).mpr ?_
  clear htree
  simp only [Tree.ok, tyd_inj, packAV, AV.same, AV.same.sameL, encV, encS, enc, inK, Nd.ok, List.headD_cons, List.cons_append, List.nil_append, List.append_nil, true_and, and_true, Bool.true_and, Bool.and_true, okFs, List.all_cons, List.all_nil, List.length_cons, List.length_nil, subF]
  have h1 := @okF_bd a b
  have h2 := @okF_bd c d
  have h3 : okF a b = true → okF c d = true → (-1000000000000000 ≤ a * d ∧ a * d ≤ 1000000000000000) ∧ (-1000000000000000 ≤ c * b ∧ c * b ≤ 1000000000000000) ∧ (1 ≤ b * d ∧ b * d ≤ 1000000000000) ∧ (-1000000000000000000 ≤ a * c ∧ a * c ≤ 1000000000000000000) ∧ (-1000000000000000 ≤ b * c ∧ b * c ≤ 1000000000000000) := fun g1 g2 =>
    have h1 := h1 g1
    have h2 := h2 g2
    ⟨mul_bd h1.2 h2.1, mul_bd h2.2 h1.1, mul_bd2 h1.1 h2.1, mul_bd3 h1.2 h2.2, Int.mul_comm c b ▸ mul_bd h2.2 h1.1⟩
  generalize a * d = m1 at *
  generalize c * b = m2 at *
  generalize b * d = m3 at *
  generalize a * c = m4 at *
  generalize b * c = m5 at *
  clear h1 h2
  repeat' first | apply And.intro | intro _
  all_goals first | omega | grind [opF]
def C_Fd_4 : FuncId → Option Ct := addC 51 ct_sSubFrac C_Fd_3
theorem C_Fd_4_ok : COk Try.prog C_Fd_4 := addC_ok C_Fd_3_ok sat_sSubFrac
def cmpF (a b c d : Int) : Int := if a * d < c * b then -1 else if c * b < a * d then 1 else 0
def ct_compare : Ct := ctOf [.s tFrac, .s tFrac] (fun (((a : Int), (b : Int)), ((c : Int), (d : Int)), _) => .p (((1 ≤ b ∧ b ≤ 1000000) ∧ (-1000000000 ≤ a ∧ a ≤ 1000000000)) ∧ ((1 ≤ d ∧ d ≤ 1000000) ∧ (-1000000000 ≤ c ∧ c ≤ 1000000000)))) (fun (((a : Int), (b : Int)), ((c : Int), (d : Int)), _) => .int .i64 (cmpF a b c d))
set_option maxHeartbeats 1000000 in
theorem sat_compare : Sat Try.prog 95 ct_compare := by
  refine sat_typed (C := C_Fd_4) (L := noL) (wr := false) mixedOk Try.func95 C_Fd_4_ok (loops0 (by kernel_rfl)) (fun _ => by first | rfl | (simp [ownsOf, ownsOf.ownsL, enc, encV, encS])) fun x hp => ?_
  obtain ⟨⟨(a : Int), (b : Int)⟩, ⟨(c : Int), (d : Int)⟩, _⟩ := x
  replace hp : ((1 ≤ b ∧ b ≤ 1000000) ∧ (-1000000000 ≤ a ∧ a ≤ 1000000000)) ∧ ((1 ≤ d ∧ d ≤ 1000000) ∧ (-1000000000 ≤ c ∧ c ≤ 1000000000)) := hp
  have htree : exFunc Try.prog C_Fd_4 false noL Try.f95 (encA [.s tFrac, .s tFrac] ((a, b), (c, d), ())) = .need (inK IntKind.i64 (a * d)) (.need (inK IntKind.i64 (c * b)) (.need (inK IntKind.i64 (a * d - c * b)) (.ite (decide (a * d - c * b < (0 : Int))) (.leaf [.int .i64 ((-1 : Int))]) (.ite (decide ((0 : Int) < a * d - c * b)) (.leaf [.int .i64 ((1 : Int))]) (.leaf [.int .i64 ((0 : Int))]))))) := by kernel_rfl
  refine (congrArg (Tree.ok _) htree).mpr ?_
  clear htree
  have h1 := mul_bd hp.1.2 hp.2.1
  have h2 := mul_bd hp.2.2 hp.1.1
  simp only [Tree.ok, tyd_inj, packAV, AV.same, AV.same.sameL, encV, encS, enc, inK, Nd.ok, List.headD_cons, List.cons_append, List.nil_append, List.append_nil, true_and, and_true, Bool.true_and, Bool.and_true, cmpF]
  generalize a * d = m1 at *
  generalize c * b = m2 at *
  repeat' first | apply And.intro | intro _
  all_goals first | omega | grind
def C_Fd_5 : FuncId → Option Ct := addC 95 ct_compare C_Fd_4
theorem C_Fd_5_ok : COk Try.prog C_Fd_5 := addC_ok C_Fd_4_ok sat_compare
def ct_l02Compare : Ct := ctOf [.s tFrac, .s tFrac] (fun (((a : Int), (b : Int)), ((c : Int), (d : Int)), _) => .p (((1 ≤ b ∧ b ≤ 1000000) ∧ (-1000000000 ≤ a ∧ a ≤ 1000000000)) ∧ ((1 ≤ d ∧ d ≤ 1000000) ∧ (-1000000000 ≤ c ∧ c ≤ 1000000000)))) (fun (((a : Int), (b : Int)), ((c : Int), (d : Int)), _) => .int .i64 (cmpF a b c d))
set_option maxHeartbeats 1000000 in
theorem sat_l02Compare : Sat Try.prog 53 ct_l02Compare := by
  refine sat_typed (C := C_Fd_5) (L := noL) (wr := false) mixedOk Try.func53 C_Fd_5_ok (loops0 (by kernel_rfl)) (fun _ => by first | rfl | (simp [ownsOf, ownsOf.ownsL, enc, encV, encS])) fun x hp => ?_
  obtain ⟨⟨(a : Int), (b : Int)⟩, ⟨(c : Int), (d : Int)⟩, _⟩ := x
  replace hp : ((1 ≤ b ∧ b ≤ 1000000) ∧ (-1000000000 ≤ a ∧ a ≤ 1000000000)) ∧ ((1 ≤ d ∧ d ≤ 1000000) ∧ (-1000000000 ≤ c ∧ c ≤ 1000000000)) := hp
  have htree : exFunc Try.prog C_Fd_5 false noL Try.f53 (encA [.s tFrac, .s tFrac] ((a, b), (c, d), ())) = .need (inK IntKind.i64 (a * d)) (.need (inK IntKind.i64 (c * b)) (.ite (decide (a * d < c * b)) (.leaf [.int .i64 ((-1 : Int))]) (.ite (decide (c * b < a * d)) (.leaf [.int .i64 ((1 : Int))]) (.leaf [.int .i64 ((0 : Int))])))) := by kernel_rfl
  refine (congrArg (Tree.ok _) htree).mpr ?_
  clear htree
  have h1 := mul_bd hp.1.2 hp.2.1
  have h2 := mul_bd hp.2.2 hp.1.1
  simp only [Tree.ok, tyd_inj, packAV, AV.same, AV.same.sameL, encV, encS, enc, inK, Nd.ok, List.headD_cons, List.cons_append, List.nil_append, List.append_nil, true_and, and_true, Bool.true_and, Bool.and_true, cmpF]
  generalize a * d = m1 at *
  generalize c * b = m2 at *
  repeat' first | apply And.intro | intro _
  all_goals first | omega | grind
def C_Fd_6 : FuncId → Option Ct := addC 53 ct_l02Compare C_Fd_5
theorem C_Fd_6_ok : COk Try.prog C_Fd_6 := addC_ok C_Fd_5_ok sat_l02Compare
def ct_whole : Ct := ctOf [.v (.int .i64)] (fun _ => .tt) (fun ((n : Int), _) => .agg [.int .i64 n, .int .i64 1])
set_option maxHeartbeats 1000000 in
theorem sat_whole : Sat Try.prog 59 ct_whole := by
  refine sat_typed (C := C_Fd_6) (L := noL) (wr := false) mixedOk Try.func59 C_Fd_6_ok (loops0 (by kernel_rfl)) (fun _ => by first | rfl | (simp [ownsOf, ownsOf.ownsL, enc, encV, encS])) fun x hp => ?_
  obtain ⟨(n : Int), _⟩ := x
  clear hp
  have htree : exFunc Try.prog C_Fd_6 false noL Try.f59 (encA [.v (.int .i64)] (n, ())) = .leaf [.agg [.int .i64 (n), .int .i64 ((1 : Int))]] := by kernel_rfl
  refine (congrArg (Tree.ok _) htree).mpr ?_
  clear htree
  simp [Tree.ok, tyd_inj, packAV, AV.same, AV.same.sameL, encV, encS, enc, inK, Nd.ok, List.headD_cons, List.cons_append, List.nil_append, List.append_nil, true_and, and_true, Bool.true_and, Bool.and_true]
def C_Fd_7 : FuncId → Option Ct := addC 59 ct_whole C_Fd_6
theorem C_Fd_7_ok : COk Try.prog C_Fd_7 := addC_ok C_Fd_6_ok sat_whole
def beatF (a b : Int) : Bool := okF a b && (decide (0 ≤ a) && decide (a ≤ 1000 * b))
def ct_isBeat : Ct := ctOf [.s tFrac] (fun _ => .tt) (fun (((a : Int), (b : Int)), _) => .bool (beatF a b))
set_option maxHeartbeats 1000000 in
theorem sat_isBeat : Sat Try.prog 112 ct_isBeat := by
  refine sat_typed (C := C_Fd_7) (L := noL) (wr := false) mixedOk Try.func112 C_Fd_7_ok (loops0 (by kernel_rfl)) (fun _ => by first | rfl | (simp [ownsOf, ownsOf.ownsL, enc, encV, encS])) fun x hp => ?_
  obtain ⟨⟨(a : Int), (b : Int)⟩, _⟩ := x
  clear hp
  have htree : exFunc Try.prog C_Fd_7 false noL Try.f112 (encA [.s tFrac] ((a, b), ())) = .ite (okF a b) (.ite (decide ((0 : Int) ≤ a)) (.need ((((1 : Int) ≤ b ∧ b ≤ (1000000 : Int)) ∧ (-1000000000 : Int) ≤ a ∧ a ≤ (1000000000 : Int)) ∧ ((1 : Int) ≤ (1 : Int) ∧ (1 : Int) ≤ (1000000 : Int)) ∧ (-1000000000 : Int) ≤ (1000 : Int) ∧ (1000 : Int) ≤ (1000000000 : Int)) (.leaf [.bool (decide (cmpF a b (1000 : Int) (1 : Int) ≤ (0 : Int)))])) (.leaf [.lit false])) (.leaf [.lit false]) := by kernel_rfl
  refine (congrArg (Tree.ok _) htree).mpr ?_
  clear htree
  have h1 := @okF_bd a b
  simp only [Tree.ok, tyd_inj, packAV, AV.same, AV.same.sameL, encV, encS, enc, inK, Nd.ok, List.headD_cons, List.cons_append, List.nil_append, List.append_nil, true_and, and_true, Bool.true_and, Bool.and_true, cmpF, beatF]
  repeat' first | apply And.intro | intro _
  all_goals first | omega | grind
def C_Fd_8 : FuncId → Option Ct := addC 112 ct_isBeat C_Fd_7
theorem C_Fd_8_ok : COk Try.prog C_Fd_8 := addC_ok C_Fd_7_ok sat_isBeat
def ct_l17Beat : Ct := ctOf [.s tFrac] (fun (((a : Int), (b : Int)), _) => .p (1 ≤ b ∧ b ≤ 1000000)) (fun (((a : Int), (b : Int)), _) => .bool (decide (0 ≤ a) && decide (a ≤ 1000 * b)))
set_option maxHeartbeats 1000000 in
theorem sat_l17Beat : Sat Try.prog 67 ct_l17Beat := by
  refine sat_typed (C := C_Fd_8) (L := noL) (wr := false) mixedOk Try.func67 C_Fd_8_ok (loops0 (by kernel_rfl)) (fun _ => by first | rfl | (simp [ownsOf, ownsOf.ownsL, enc, encV, encS])) fun x hp => ?_
  obtain ⟨⟨(a : Int), (b : Int)⟩, _⟩ := x
  replace hp : 1 ≤ b ∧ b ≤ 1000000 := hp
  have htree : exFunc Try.prog C_Fd_8 false noL Try.f67 (encA [.s tFrac] ((a, b), ())) = .ite (decide ((0 : Int) ≤ a)) (.need (inK IntKind.i64 ((1000 : Int) * b)) (.leaf [.bool (decide (a ≤ (1000 : Int) * b))])) (.leaf [.lit false]) := by kernel_rfl
  refine (congrArg (Tree.ok _) htree).mpr ?_
  clear htree
  simp only [Tree.ok, tyd_inj, packAV, AV.same, AV.same.sameL, encV, encS, enc, inK, Nd.ok, List.headD_cons, List.cons_append, List.nil_append, List.append_nil, true_and, and_true, Bool.true_and, Bool.and_true]
  repeat' first | apply And.intro | intro _
  all_goals first | omega | grind
def C_Fd_9 : FuncId → Option Ct := addC 67 ct_l17Beat C_Fd_8
theorem C_Fd_9_ok : COk Try.prog C_Fd_9 := addC_ok C_Fd_8_ok sat_l17Beat
def ct_l18Sum : Ct := ctOf [.s tFrac, .s tFrac] (fun _ => .tt) (fun (((a : Int), (b : Int)), ((c : Int), (d : Int)), _) => .tup [.agg (enc tFrac (addF a b c d).1), .bool (decide ((addF a b c d).2 = 0))])
set_option maxHeartbeats 1000000 in
theorem sat_l18Sum : Sat Try.prog 30 ct_l18Sum := by
  refine sat_typed (C := C_Fd_9) (L := noL) (wr := false) mixedOk Try.func30 C_Fd_9_ok (loops0 (by kernel_rfl)) (fun _ => by first | rfl | (simp [ownsOf, ownsOf.ownsL, enc, encV, encS])) fun x hp => ?_
  obtain ⟨⟨(a : Int), (b : Int)⟩, ⟨(c : Int), (d : Int)⟩, _⟩ := x
  clear hp
  have htree : exFunc Try.prog C_Fd_9 false noL Try.f30 (encA [.s tFrac, .s tFrac] ((a, b), (c, d), ())) = .leaf [.agg [.int .i64 ((addF a b c d).fst.fst), .int .i64 ((addF a b c d).fst.snd)], .bool ((addF a b c d).snd == (0 : Int))] := by kernel_rfl
  refine (congrArg (Tree.ok _) htree).mpr ?_
  clear htree
  simp only [Tree.ok, tyd_inj, packAV, AV.same, AV.same.sameL, encV, encS, enc, inK, Nd.ok, List.headD_cons, List.cons_append, List.nil_append, List.append_nil, true_and, and_true, Bool.true_and, Bool.and_true]
  grind
def C_Fd_10 : FuncId → Option Ct := addC 30 ct_l18Sum C_Fd_9
theorem C_Fd_10_ok : COk Try.prog C_Fd_10 := addC_ok C_Fd_9_ok sat_l18Sum
def noteF (x : tNote.den) : Bool := beatF x.1.1 x.1.2 && (beatF x.2.1.1 x.2.1.2 && (!decide (x.2.1.1 = 0) && (decide ((addF x.1.1 x.1.2 x.2.1.1 x.2.1.2).2 = 0) && (inB x.2.2.1 0 127 && (inB x.2.2.2.1 1 127 && inB x.2.2.2.2 0 15)))))
def ct_isNote : Ct := ctOf [.s tNote] (fun _ => .tt) (fun ((x : tNote.den), _) => .bool (noteF x))
set_option maxHeartbeats 1000000 in
theorem sat_isNote : Sat Try.prog 75 ct_isNote := by
  refine sat_typed (C := C_Fd_10) (L := noL) (wr := false) mixedOk Try.func75 C_Fd_10_ok (loops0 (by kernel_rfl)) (fun _ => by first | rfl | (simp [ownsOf, ownsOf.ownsL, enc, encV, encS])) fun x hp => ?_
  obtain ⟨(x : tNote.den), _⟩ := x
  clear hp
  have htree : exFunc Try.prog C_Fd_10 false noL Try.f75 (encA [.s tNote] (x, ())) = .ite (!beatF x.fst.fst x.fst.snd) (.leaf [.lit false]) (.ite (!beatF x.snd.fst.fst x.snd.fst.snd) (.leaf [.lit false]) (.ite (x.snd.fst.fst == (0 : Int)) (.leaf [.lit false]) (.ite ((addF x.fst.fst x.fst.snd x.snd.fst.fst x.snd.fst.snd).snd == (0 : Int)) (.ite (inB x.snd.snd.fst (0 : Int) (127 : Int)) (.ite (inB x.snd.snd.snd.fst (1 : Int) (127 : Int)) (.leaf [.bool (inB x.snd.snd.snd.snd (0 : Int) (15 : Int))]) (.leaf [.lit false])) (.leaf [.lit false])) (.leaf [.lit false])))) := by kernel_rfl
  refine (congrArg (Tree.ok _) htree).mpr ?_
  clear htree
  simp only [Tree.ok, tyd_inj, packAV, AV.same, AV.same.sameL, encV, encS, enc, inK, Nd.ok, List.headD_cons, List.cons_append, List.nil_append, List.append_nil, true_and, and_true, Bool.true_and, Bool.and_true, noteF]
  repeat' first | apply And.intro | intro _
  all_goals first | omega | grind
def C_Fd_11 : FuncId → Option Ct := addC 75 ct_isNote C_Fd_10
theorem C_Fd_11_ok : COk Try.prog C_Fd_11 := addC_ok C_Fd_10_ok sat_isNote
def ct_l18Note : Ct := ctOf [.p tNote] (fun _ => .tt) (fun ((x : tNote.den), _) => .bool (noteF x))
set_option maxHeartbeats 1000000 in
theorem sat_l18Note : Sat Try.prog 29 ct_l18Note := by
  refine sat_typed (C := C_Fd_11) (L := noL) (wr := false) mixedOk Try.func29 C_Fd_11_ok (loops0 (by kernel_rfl)) (fun _ => by first | rfl | (simp [ownsOf, ownsOf.ownsL, enc, encV, encS])) fun x hp => ?_
  obtain ⟨(x : tNote.den), _⟩ := x
  clear hp
  have htree : exFunc Try.prog C_Fd_11 false noL Try.f29 (encA [.p tNote] (x, ())) = .ite (!okF x.fst.fst x.fst.snd) (.leaf [.lit false]) (.need ((1 : Int) ≤ x.fst.snd ∧ x.fst.snd ≤ (1000000 : Int)) (.ite (!(decide ((0 : Int) ≤ x.fst.fst) && decide (x.fst.fst ≤ (1000 : Int) * x.fst.snd))) (.leaf [.lit false]) (.ite (!okF x.snd.fst.fst x.snd.fst.snd) (.leaf [.lit false]) (.need ((1 : Int) ≤ x.snd.fst.snd ∧ x.snd.fst.snd ≤ (1000000 : Int)) (.ite (!(decide ((0 : Int) ≤ x.snd.fst.fst) && decide (x.snd.fst.fst ≤ (1000 : Int) * x.snd.fst.snd))) (.leaf [.lit false]) (.ite (x.snd.fst.fst == (0 : Int)) (.leaf [.lit false]) (.ite (decide ((addF x.fst.fst x.fst.snd x.snd.fst.fst x.snd.fst.snd).snd = (0 : Int))) (.ite (inB x.snd.snd.fst (0 : Int) (127 : Int)) (.ite (inB x.snd.snd.snd.fst (1 : Int) (127 : Int)) (.leaf [.bool (inB x.snd.snd.snd.snd (0 : Int) (15 : Int))]) (.leaf [.lit false])) (.leaf [.lit false])) (.leaf [.lit false])))))))) := by kernel_rfl
  refine (congrArg (Tree.ok _) htree).mpr ?_
  clear htree
  have h1 := @okF_bd x.1.1 x.1.2
  have h2 := @okF_bd x.2.1.1 x.2.1.2
  simp only [Tree.ok, tyd_inj, packAV, AV.same, AV.same.sameL, encV, encS, enc, inK, Nd.ok, List.headD_cons, List.cons_append, List.nil_append, List.append_nil, true_and, and_true, Bool.true_and, Bool.and_true, noteF, beatF]
  repeat' first | apply And.intro | intro _
  all_goals first | omega | grind
def C_Fd_12 : FuncId → Option Ct := addC 29 ct_l18Note C_Fd_11
theorem C_Fd_12_ok : COk Try.prog C_Fd_12 := addC_ok C_Fd_11_ok sat_l18Note

def C_Fd : FuncId → Option Ct := C_Fd_12
theorem C_Fd_ok : COk Try.prog C_Fd := C_Fd_12_ok
end Go.Proofs.Ytemlpimibhijoaa
