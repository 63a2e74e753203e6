/- Contracts: what NearestKey calls, of the program and the reference (under way). Conditions: as each says. -/
import Derived.Test.YtdglkoeojhakhaaFi
import Derived.Test.YtdglkoeojhakhaaNkM
set_option linter.unusedSimpArgs false
set_option linter.unusedVariables false
namespace Go.Proofs.Ytdglkoeojhakhaa
open Go.RowKit Sx
set_option maxRecDepth 100000
theorem and40 (n : Int) (h : 0 ≤ n) : ((n.toNat &&& 1099511627775 : Nat) : Int) = n % 1099511627776 := by
  have := Nat.and_two_pow_sub_one_eq_mod n.toNat 40
  rw [show (1099511627775 : Nat) = 2 ^ 40 - 1 by decide, this]
  omega
theorem bd40 {a b : Int} (h : (0 ≤ a ∧ a ≤ 4000000000000000000) ∧ (0 ≤ b ∧ b ≤ 1000000)) : (0 ≤ a / 1099511627776 * b ∧ a / 1099511627776 * b ≤ 4000000000000) ∧ (0 ≤ a % 1099511627776 * b ∧ a % 1099511627776 * b ≤ 1099511627776000000) := by
  obtain ⟨⟨h1, h2⟩, h3, h4⟩ := h
  have g1 : a / 1099511627776 * b ≤ a / 1099511627776 * 1000000 := Int.mul_le_mul_of_nonneg_left h4 (by omega)
  have g2 : a % 1099511627776 * b ≤ a % 1099511627776 * 1000000 := Int.mul_le_mul_of_nonneg_left h4 (by omega)
  exact ⟨⟨Int.mul_nonneg (by omega) h3, by omega⟩, ⟨Int.mul_nonneg (by omega) h3, by omega⟩⟩
def ct_l15Mul : Ct := ctOf [.v (.int .i64), .v (.int .i64)] (fun ((a : Int), (b : Int), _) => .p ((0 ≤ a ∧ a ≤ 4000000000000000000) ∧ (0 ≤ b ∧ b ≤ 1000000))) (fun ((a : Int), (b : Int), _) => .tup [.int .i64 (a / 1099511627776 * b + a % 1099511627776 * b / 1099511627776), .int .i64 (a % 1099511627776 * b % 1099511627776)])
set_option maxHeartbeats 1000000 in
theorem sat_l15Mul : Sat Try.prog 219 ct_l15Mul := by
  refine sat_typed (C := C_Fi) (L := noL) (wr := false) mixedOk Try.func219 C_Fi_ok (loops0 (by kernel_rfl)) (fun _ => by first | rfl | (simp [ownsOf, ownsOf.ownsL, enc, encV, encS])) fun x hp => ?_
  obtain ⟨(a : Int), (b : Int), _⟩ := x
  replace hp : (0 ≤ a ∧ a ≤ 4000000000000000000) ∧ (0 ≤ b ∧ b ≤ 1000000) := hp
  have htree : exFunc Try.prog C_Fi false noL Try.f219 (encA [.v (.int .i64), .v (.int .i64)] (a, b, ())) = .need (((0 : Int) ≤ a ∧ a ≤ (9223372036854775807 : Int)) ∧ ((0 : Int) ≤ (1099511627775 : Int) ∧ (1099511627775 : Int) ≤ (9223372036854775807 : Int)) ∧ (IntKind.i64 = IntKind.i64 ∨ IntKind.i64 = IntKind.u64)) (.need (inK IntKind.i64 ((↑(a.toNat &&& Int.toNat (1099511627775 : Int)) : Int) * b)) (.need (((0 : Int) ≤ (40 : Int) ∧ (40 : Int) ≤ (63 : Int)) ∧ (IntKind.i64 = IntKind.i64 ∨ IntKind.i64 = IntKind.u64)) (.need (inK IntKind.i64 (a / (2 : Int) ^ Int.toNat (40 : Int) * b)) (.need (((0 : Int) ≤ (40 : Int) ∧ (40 : Int) ≤ (63 : Int)) ∧ (IntKind.i64 = IntKind.i64 ∨ IntKind.i64 = IntKind.u64)) (.need (inK IntKind.i64 (a / (2 : Int) ^ Int.toNat (40 : Int) * b + (↑(a.toNat &&& Int.toNat (1099511627775 : Int)) : Int) * b / (2 : Int) ^ Int.toNat (40 : Int))) (.need (((0 : Int) ≤ (↑(a.toNat &&& Int.toNat (1099511627775 : Int)) : Int) * b ∧ (↑(a.toNat &&& Int.toNat (1099511627775 : Int)) : Int) * b ≤ (9223372036854775807 : Int)) ∧ ((0 : Int) ≤ (1099511627775 : Int) ∧ (1099511627775 : Int) ≤ (9223372036854775807 : Int)) ∧ (IntKind.i64 = IntKind.i64 ∨ IntKind.i64 = IntKind.u64)) (.leaf [.int .i64 (a / (2 : Int) ^ Int.toNat (40 : Int) * b + (↑(a.toNat &&& Int.toNat (1099511627775 : Int)) : Int) * b / (2 : Int) ^ Int.toNat (40 : Int)), .int .i64 ((↑(((↑(a.toNat &&& Int.toNat (1099511627775 : Int)) : Int) * b).toNat &&& Int.toNat (1099511627775 : Int)) : Int))]))))))) := by kernel_rfl
  refine (congrArg (Tree.ok _) htree).mpr ?_
  clear htree
  have e1 := and40 a hp.1.1
  have e2 := and40 (a % 1099511627776 * b) (bd40 hp).2.1
  have b1 := bd40 hp
  simp only [Tree.ok, packAV, AV.same, AV.same.sameL, encV, encS, enc, inK, Nd.ok, List.headD_cons, List.cons_append, List.nil_append, List.append_nil, true_and, and_true, Bool.true_and, Bool.and_true, e1, e2]
  repeat' first | apply And.intro | intro _
  all_goals first | omega | (simp [Tree.ok, packAV, AV.same, AV.same.sameL, encV, encS, enc, inK, Nd.ok, List.headD_cons, List.cons_append, List.nil_append, List.append_nil, true_and, and_true, Bool.true_and, Bool.and_true, e1, e2]; done) | (simp [Tree.ok, packAV, AV.same, AV.same.sameL, encV, encS, enc, inK, Nd.ok, List.headD_cons, List.cons_append, List.nil_append, List.append_nil, true_and, and_true, Bool.true_and, Bool.and_true, e1, e2]; omega) | grind
def C_Nk_1 : FuncId → Option Ct := addC 219 ct_l15Mul C_Fi
theorem C_Nk_1_ok : COk Try.prog C_Nk_1 := addC_ok C_Fi_ok sat_l15Mul
def ct_l15Less : Ct := ctOf [.v (.int .i64), .v (.int .i64), .v (.int .i64), .v (.int .i64)] (fun ((a : Int), (b : Int), (c : Int), (d : Int), _) => .p (((0 ≤ a ∧ a ≤ 4000000000000000000) ∧ (0 ≤ b ∧ b ≤ 1000000)) ∧ ((0 ≤ c ∧ c ≤ 4000000000000000000) ∧ (0 ≤ d ∧ d ≤ 1000000)))) (fun ((a : Int), (b : Int), (c : Int), (d : Int), _) => .bool (decide (a * b < c * d)))
set_option maxHeartbeats 1000000 in
theorem sat_l15Less : Sat Try.prog 176 ct_l15Less := by
  refine sat_typed (C := C_Nk_1) (L := noL) (wr := false) mixedOk Try.func176 C_Nk_1_ok (loops0 (by kernel_rfl)) (fun _ => by first | rfl | (simp [ownsOf, ownsOf.ownsL, enc, encV, encS])) fun x hp => ?_
  obtain ⟨(a : Int), (b : Int), (c : Int), (d : Int), _⟩ := x
  replace hp : ((0 ≤ a ∧ a ≤ 4000000000000000000) ∧ (0 ≤ b ∧ b ≤ 1000000)) ∧ ((0 ≤ c ∧ c ≤ 4000000000000000000) ∧ (0 ≤ d ∧ d ≤ 1000000)) := hp
  have htree : exFunc Try.prog C_Nk_1 false noL Try.f176 (encA [.v (.int .i64), .v (.int .i64), .v (.int .i64), .v (.int .i64)] (a, b, c, d, ())) = .need (((0 : Int) ≤ a ∧ a ≤ (4000000000000000000 : Int)) ∧ (0 : Int) ≤ b ∧ b ≤ (1000000 : Int)) (.need (((0 : Int) ≤ c ∧ c ≤ (4000000000000000000 : Int)) ∧ (0 : Int) ≤ d ∧ d ≤ (1000000 : Int)) (.ite (decide (a / (1099511627776 : Int) * b + a % (1099511627776 : Int) * b / (1099511627776 : Int) < c / (1099511627776 : Int) * d + c % (1099511627776 : Int) * d / (1099511627776 : Int))) (.leaf [.lit true]) (.ite (a / (1099511627776 : Int) * b + a % (1099511627776 : Int) * b / (1099511627776 : Int) == c / (1099511627776 : Int) * d + c % (1099511627776 : Int) * d / (1099511627776 : Int)) (.leaf [.bool (decide (a % (1099511627776 : Int) * b % (1099511627776 : Int) < c % (1099511627776 : Int) * d % (1099511627776 : Int)))]) (.leaf [.lit false])))) := by kernel_rfl
  refine (congrArg (Tree.ok _) htree).mpr ?_
  clear htree
  have h := parts_lt (mul_parts a b) (mul_parts c d) (by omega) (by omega) (by omega) (by omega)
  simp only [Tree.ok, packAV, AV.same, AV.same.sameL, encV, encS, enc, inK, Nd.ok, List.headD_cons, List.cons_append, List.nil_append, List.append_nil, true_and, and_true, Bool.true_and, Bool.and_true]
  generalize a / 1099511627776 * b + a % 1099511627776 * b / 1099511627776 = u1 at *
  generalize c / 1099511627776 * d + c % 1099511627776 * d / 1099511627776 = u2 at *
  generalize a % 1099511627776 * b % 1099511627776 = v1 at *
  generalize c % 1099511627776 * d % 1099511627776 = v2 at *
  generalize a * b = w1 at *
  generalize c * d = w2 at *
  repeat' first | apply And.intro | intro _
  all_goals first | omega | grind
def C_Nk_2 : FuncId → Option Ct := addC 176 ct_l15Less C_Nk_1
theorem C_Nk_2_ok : COk Try.prog C_Nk_2 := addC_ok C_Nk_1_ok sat_l15Less
def ct_distance : Ct := ctOf [.s tFrac, .s tFrac] (fun (((a : Int), (b : Int)), ((c : Int), (d : Int)), _) => .p (((1 ≤ b ∧ b ≤ 1000000) ∧ (-1000000000 ≤ a ∧ a ≤ 1000000000)) ∧ ((1 ≤ d ∧ d ≤ 1000000) ∧ (-1000000000 ≤ c ∧ c ≤ 1000000000)))) (fun (((a : Int), (b : Int)), ((c : Int), (d : Int)), _) => .tup [.int .i64 (max (a * d - c * b) (-(a * d - c * b))), .int .i64 (b * d)])
set_option maxHeartbeats 1000000 in
theorem sat_distance : Sat Try.prog 84 ct_distance := by
  refine sat_typed (C := C_Nk_2) (L := noL) (wr := false) mixedOk Try.func84 C_Nk_2_ok (loops0 (by kernel_rfl)) (fun _ => by first | rfl | (simp [ownsOf, ownsOf.ownsL, enc, encV, encS])) fun x hp => ?_
  obtain ⟨⟨(a : Int), (b : Int)⟩, ⟨(c : Int), (d : Int)⟩, _⟩ := x
  replace hp : ((1 ≤ b ∧ b ≤ 1000000) ∧ (-1000000000 ≤ a ∧ a ≤ 1000000000)) ∧ ((1 ≤ d ∧ d ≤ 1000000) ∧ (-1000000000 ≤ c ∧ c ≤ 1000000000)) := hp
  have htree : exFunc Try.prog C_Nk_2 false noL Try.f84 (encA [.s tFrac, .s tFrac] ((a, b), (c, d), ())) = .need (inK IntKind.i64 (a * d)) (.need (inK IntKind.i64 (c * b)) (.need (inK IntKind.i64 (a * d - c * b)) (.need (inK IntKind.i64 ((0 : Int) - (a * d - c * b))) (.need (inK IntKind.i64 (b * d)) (.leaf [.int .i64 (bif true then max (a * d - c * b) ((0 : Int) - (a * d - c * b)) else min (a * d - c * b) ((0 : Int) - (a * d - c * b))), .int .i64 (b * d)]))))) := by kernel_rfl
  refine (congrArg (Tree.ok _) htree).mpr ?_
  clear htree
  have h1 := mul_bd hp.1.2 hp.2.1
  have h2 := mul_bd hp.2.2 hp.1.1
  have h3 := mul_bd2 hp.1.1 hp.2.1
  simp only [Tree.ok, packAV, AV.same, AV.same.sameL, encV, encS, enc, inK, Nd.ok, List.headD_cons, List.cons_append, List.nil_append, List.append_nil, true_and, and_true, Bool.true_and, Bool.and_true]
  generalize a * d = m1 at *
  generalize c * b = m2 at *
  generalize b * d = m3 at *
  repeat' first | apply And.intro | intro _
  all_goals first | omega | (simp [Tree.ok, packAV, AV.same, AV.same.sameL, encV, encS, enc, inK, Nd.ok, List.headD_cons, List.cons_append, List.nil_append, List.append_nil, true_and, and_true, Bool.true_and, Bool.and_true]; done) | (simp [Tree.ok, packAV, AV.same, AV.same.sameL, encV, encS, enc, inK, Nd.ok, List.headD_cons, List.cons_append, List.nil_append, List.append_nil, true_and, and_true, Bool.true_and, Bool.and_true]; omega) | grind
def C_Nk_3 : FuncId → Option Ct := addC 84 ct_distance C_Nk_2
theorem C_Nk_3_ok : COk Try.prog C_Nk_3 := addC_ok C_Nk_2_ok sat_distance
def ct_l15Closer : Ct := ctOf [.s tFrac, .s tFrac, .s tFrac] (fun (((an : Int), (ad : Int)), ((bn : Int), (bd : Int)), ((xn : Int), (xd : Int)), _) => .p (((1 ≤ ad ∧ ad ≤ 1000000) ∧ (-1000000000 ≤ an ∧ an ≤ 1000000000)) ∧ ((1 ≤ bd ∧ bd ≤ 1000000) ∧ (-1000000000 ≤ bn ∧ bn ≤ 1000000000)) ∧ ((1 ≤ xd ∧ xd ≤ 1000000) ∧ (-1000000000 ≤ xn ∧ xn ≤ 1000000000)))) (fun (((an : Int), (ad : Int)), ((bn : Int), (bd : Int)), ((xn : Int), (xd : Int)), _) => .bool (decide (an * xd < xn * ad ∧ (bn * xd ≤ xn * bd ∨ (bn * xd - xn * bd) * ad < (xn * ad - an * xd) * bd))))
set_option maxHeartbeats 1000000 in
theorem sat_l15Closer : Sat Try.prog 78 ct_l15Closer := by
  refine sat_typed (C := C_Nk_3) (L := noL) (wr := false) mixedOk Try.func78 C_Nk_3_ok (loops0 (by kernel_rfl)) (fun _ => by first | rfl | (simp [ownsOf, ownsOf.ownsL, enc, encV, encS])) fun x hp => ?_
  obtain ⟨⟨(an : Int), (ad : Int)⟩, ⟨(bn : Int), (bd : Int)⟩, ⟨(xn : Int), (xd : Int)⟩, _⟩ := x
  replace hp : ((1 ≤ ad ∧ ad ≤ 1000000) ∧ (-1000000000 ≤ an ∧ an ≤ 1000000000)) ∧ ((1 ≤ bd ∧ bd ≤ 1000000) ∧ (-1000000000 ≤ bn ∧ bn ≤ 1000000000)) ∧ ((1 ≤ xd ∧ xd ≤ 1000000) ∧ (-1000000000 ≤ xn ∧ xn ≤ 1000000000)) := hp
  have htree : exFunc Try.prog C_Nk_3 false noL Try.f78 (encA [.s tFrac, .s tFrac, .s tFrac] ((an, ad), (bn, bd), (xn, xd), ())) = .need ((((1 : Int) ≤ xd ∧ xd ≤ (1000000 : Int)) ∧ (-1000000000 : Int) ≤ xn ∧ xn ≤ (1000000000 : Int)) ∧ ((1 : Int) ≤ ad ∧ ad ≤ (1000000 : Int)) ∧ (-1000000000 : Int) ≤ an ∧ an ≤ (1000000000 : Int)) (.ite (decide (cmpF xn xd an ad ≤ (0 : Int))) (.leaf [.lit false]) (.need ((((1 : Int) ≤ xd ∧ xd ≤ (1000000 : Int)) ∧ (-1000000000 : Int) ≤ xn ∧ xn ≤ (1000000000 : Int)) ∧ ((1 : Int) ≤ bd ∧ bd ≤ (1000000 : Int)) ∧ (-1000000000 : Int) ≤ bn ∧ bn ≤ (1000000000 : Int)) (.ite (decide ((0 : Int) ≤ cmpF xn xd bn bd)) (.leaf [.lit true]) (.need (inK IntKind.i64 (xn * ad)) (.need (inK IntKind.i64 (an * xd)) (.need (inK IntKind.i64 (xn * ad - an * xd)) (.need (inK IntKind.i64 (bn * xd)) (.need (inK IntKind.i64 (xn * bd)) (.need (inK IntKind.i64 (bn * xd - xn * bd)) (.need ((((0 : Int) ≤ bn * xd - xn * bd ∧ bn * xd - xn * bd ≤ (4000000000000000000 : Int)) ∧ (0 : Int) ≤ ad ∧ ad ≤ (1000000 : Int)) ∧ ((0 : Int) ≤ xn * ad - an * xd ∧ xn * ad - an * xd ≤ (4000000000000000000 : Int)) ∧ (0 : Int) ≤ bd ∧ bd ≤ (1000000 : Int)) (.leaf [.bool (decide ((bn * xd - xn * bd) * ad < (xn * ad - an * xd) * bd))]))))))))))) := by kernel_rfl
  refine (congrArg (Tree.ok _) htree).mpr ?_
  clear htree
  have h1 := mul_bd hp.2.2.2 hp.1.1
  have h2 := mul_bd hp.1.2 hp.2.2.1
  have h3 := mul_bd hp.2.1.2 hp.2.2.1
  have h4 := mul_bd hp.2.2.2 hp.2.1.1
  simp only [Tree.ok, packAV, AV.same, AV.same.sameL, encV, encS, enc, inK, Nd.ok, List.headD_cons, List.cons_append, List.nil_append, List.append_nil, true_and, and_true, Bool.true_and, Bool.and_true, cmpF]
  repeat' first | apply And.intro | intro _
  all_goals first | omega | (simp only [decide_eq_true_eq, decide_eq_false_iff_not] at *; omega) | grind
def C_Nk_4 : FuncId → Option Ct := addC 78 ct_l15Closer C_Nk_3
theorem C_Nk_4_ok : COk Try.prog C_Nk_4 := addC_ok C_Nk_3_ok sat_l15Closer
def cmpV (s a b c d : Int) : Int := if a * d < c * b then -s else if a * d = c * b then 0 else s
theorem cmpV_step {s a b c d : Int} (ha : 0 ≤ a) (hb : 0 < b) (hc : 0 ≤ c) (hd : 0 < d) : cmpV s a b c d =
    if a.tdiv b ≠ c.tdiv d then (if a.tdiv b < c.tdiv d then -s else s)
    else if a.tmod b = 0 ∧ c.tmod d = 0 then 0
    else if a.tmod b = 0 then -s
    else if c.tmod d = 0 then s
    else cmpV (-s) b (a.tmod b) d (c.tmod d) := by
  have h1 := cmpB_eq (b.toNat - 1 + 1) s a b c d ha hb hc hd (by omega)
  have h3 := Int.tmod_lt_of_pos a hb
  have h5 := Int.tmod_nonneg b ha
  have h6 := Int.tmod_nonneg d hc
  have h4 : a.tmod b ≠ 0 → c.tmod d ≠ 0 → cmpB (b.toNat - 1) (-s) b (a.tmod b) d (c.tmod d) = cmpV (-s) b (a.tmod b) d (c.tmod d) := fun e1 e2 => cmpB_eq (b.toNat - 1) (-s) b (a.tmod b) d (c.tmod d) (by omega) (by omega) (by omega) (by omega) (by omega)
  unfold cmpV at *
  rw [← h1]
  rw [cmpB]
  split
  · rfl
  · split
    · rfl
    · split
      · rfl
      · split
        · rfl
        · rename_i k1 k2
          exact h4 k1 k2
def ann_compareBig_0 : LAnn := { sameS := [], modS := [0, 1, 2, 3, 8, 9], sameH := [], modH := [], base := 900000, nilE := [], nilB := [], G := fun
  | ⟨[], [], [.int .i64 a, .int .i64 b, .int .i64 c, .int .i64 d, .int .i64 r, .int .i64 s], []⟩ => some (.p ((((0 ≤ a ∧ a ≤ 9223372036854775807) ∧ (1 ≤ b ∧ b ≤ 9223372036854775807)) ∧ ((0 ≤ c ∧ c ≤ 9223372036854775807) ∧ (1 ≤ d ∧ d ≤ 9223372036854775807))) ∧ (s = 1 ∨ s = -1)), .leaf .ret [.unk, .unk, .unk, .unk, .int .i64 (cmpV s a b c d), .unk] [])
  | _ => none }
def ct_compareBig : Ct := ctOf [.v (.int .i64), .v (.int .i64), .v (.int .i64), .v (.int .i64)] (fun ((a : Int), (b : Int), (c : Int), (d : Int), _) => .p (((0 ≤ a ∧ a ≤ 9223372036854775807) ∧ (1 ≤ b ∧ b ≤ 9223372036854775807)) ∧ ((0 ≤ c ∧ c ≤ 9223372036854775807) ∧ (1 ≤ d ∧ d ≤ 9223372036854775807)))) (fun ((a : Int), (b : Int), (c : Int), (d : Int), _) => .int .i64 (cmpV 1 a b c d))
set_option maxHeartbeats 1000000 in
theorem loop_compareBig_0 : LoopSat Try.prog Try.f85.ntmps (loopAt Try.f85 0) ann_compareBig_0 := by
  refine loopSat_of (C := C_Nk_4) (L := (addL (firstId (loopAt Try.f85 0)) ann_compareBig_0 noL)) (wr := false) mixedOk C_Nk_4_ok (loopsIn0 (by kernel_rfl)) (fun d => match d.vals with | [_, .int _ b, _, _, _, _] => b.toNat | _ => 0) fun d p t hG hp => ?_
  simp only [ann_compareBig_0] at hG
  split at hG
  rotate_left
  · simp at hG
  rename_i a b c d r s
  simp only [Option.some.injEq, Prod.mk.injEq] at hG
  obtain ⟨rfl, rfl⟩ := hG
  have htree : exRound Try.prog C_Nk_4 false (addL (firstId (loopAt Try.f85 0)) ann_compareBig_0 noL) Try.f85.ntmps ann_compareBig_0 (loopAt Try.f85 0) ⟨[], [], [.int .i64 a, .int .i64 b, .int .i64 c, .int .i64 d, .int .i64 r, .int .i64 s], []⟩ = .need (b ≠ (0 : Int) ∧ inK IntKind.i64 (a.tdiv b)) (.need (d ≠ (0 : Int) ∧ inK IntKind.i64 (c.tdiv d)) (.ite (a.tdiv b != c.tdiv d) (.ite (decide (a.tdiv b < c.tdiv d)) (.need (inK IntKind.i64 ((0 : Int) - s)) (.leaf (.ret, ⟨[], [], [.int .i64 (a), .int .i64 (b), .int .i64 (c), .int .i64 (d), .int .i64 ((0 : Int) - s), .int .i64 (s)], []⟩))) (.leaf (.ret, ⟨[], [], [.int .i64 (a), .int .i64 (b), .int .i64 (c), .int .i64 (d), .int .i64 (s), .int .i64 (s)], []⟩))) (.need (b ≠ (0 : Int)) (.need (d ≠ (0 : Int)) (.ite (a.tmod b == (0 : Int)) (.ite (c.tmod d == (0 : Int)) (.leaf (.ret, ⟨[], [], [.int .i64 (a.tmod b), .int .i64 (b), .int .i64 (c.tmod d), .int .i64 (d), .int .i64 ((0 : Int)), .int .i64 (s)], []⟩)) (.ite (a.tmod b == (0 : Int)) (.need (inK IntKind.i64 ((0 : Int) - s)) (.leaf (.ret, ⟨[], [], [.int .i64 (a.tmod b), .int .i64 (b), .int .i64 (c.tmod d), .int .i64 (d), .int .i64 ((0 : Int) - s), .int .i64 (s)], []⟩))) (.ite (c.tmod d == (0 : Int)) (.leaf (.ret, ⟨[], [], [.int .i64 (a.tmod b), .int .i64 (b), .int .i64 (c.tmod d), .int .i64 (d), .int .i64 (s), .int .i64 (s)], []⟩)) (.need (inK IntKind.i64 ((0 : Int) - s)) (.leaf (.normal, ⟨[], [], [.int .i64 (b), .int .i64 (a.tmod b), .int .i64 (d), .int .i64 (c.tmod d), .int .i64 (r), .int .i64 ((0 : Int) - s)], []⟩)))))) (.ite (a.tmod b == (0 : Int)) (.need (inK IntKind.i64 ((0 : Int) - s)) (.leaf (.ret, ⟨[], [], [.int .i64 (a.tmod b), .int .i64 (b), .int .i64 (c.tmod d), .int .i64 (d), .int .i64 ((0 : Int) - s), .int .i64 (s)], []⟩))) (.ite (c.tmod d == (0 : Int)) (.leaf (.ret, ⟨[], [], [.int .i64 (a.tmod b), .int .i64 (b), .int .i64 (c.tmod d), .int .i64 (d), .int .i64 (s), .int .i64 (s)], []⟩)) (.need (inK IntKind.i64 ((0 : Int) - s)) (.leaf (.normal, ⟨[], [], [.int .i64 (b), .int .i64 (a.tmod b), .int .i64 (d), .int .i64 (c.tmod d), .int .i64 (r), .int .i64 ((0 : Int) - s)], []⟩)))))))))) := by kernel_rfl
  rw [htree]
  clear htree
  replace hp : (((0 ≤ a ∧ a ≤ 9223372036854775807) ∧ (1 ≤ b ∧ b ≤ 9223372036854775807)) ∧ ((0 ≤ c ∧ c ≤ 9223372036854775807) ∧ (1 ≤ d ∧ d ≤ 9223372036854775807))) ∧ (s = 1 ∨ s = -1) := hp
  have h0 := cmpV_step (s := s) (a := a) (b := b) (c := c) (d := d) (by omega) (by omega) (by omega) (by omega)
  have h1 := tdiv_small a b (by omega)
  have h2 := tdiv_small c d (by omega)
  have h3 := Int.tmod_lt_of_pos a (b := b) (by omega)
  have h4 := Int.tmod_lt_of_pos c (b := d) (by omega)
  have h5 := Int.tmod_nonneg b (a := a) (by omega)
  have h6 := Int.tmod_nonneg d (a := c) (by omega)
  simp only [Tree.ok, packAV, AV.same, AV.same.sameL, encV, encS, enc, inK, Nd.ok, List.headD_cons, List.cons_append, List.nil_append, List.append_nil, true_and, and_true, Bool.true_and, Bool.and_true, loop_next, weakBs_nil, weakBs_cons, weakB_self, weakB_row, weakB_int, weakL_nil, weakL_unk, weakL_int, weakL_bool, weakL_str, weakL_own, weakL_view, weakL_nilS, noRow_int, noRow_bool, own_inj, LTree.val, cond_true, cond_false, Prod.mk.injEq, List.cons.injEq, AV.int.injEq, AV.bool.injEq, AV.str.injEq, AV.agg.injEq, ann_compareBig_0, Int.zero_sub]
  rw [h0]
  clear h0
  generalize a.tdiv b = q at *
  generalize c.tdiv d = r' at *
  generalize a.tmod b = a' at *
  generalize c.tmod d = c' at *
  generalize cmpV (-s) b a' d c' = V at *
  repeat' first | apply And.intro | intro _
  all_goals first | omega | assumption | trivial | (simp [Tree.ok, packAV, AV.same, AV.same.sameL, encV, encS, enc, inK, Nd.ok, List.headD_cons, List.cons_append, List.nil_append, List.append_nil, true_and, and_true, Bool.true_and, Bool.and_true, loop_next, weakBs_nil, weakBs_cons, weakB_self, weakB_row, weakB_int, weakL_nil, weakL_unk, weakL_int, weakL_bool, weakL_str, weakL_own, weakL_view, weakL_nilS, noRow_int, noRow_bool, own_inj, LTree.val, cond_true, cond_false, Prod.mk.injEq, List.cons.injEq, AV.int.injEq, AV.bool.injEq, AV.str.injEq, AV.agg.injEq]; done) | (simp_all; done) | (simp_all; omega) | grind
theorem loops_compareBig : ∀ c, Try.f85.body = some c → LoopsOk Try.prog (addL (firstId (loopAt Try.f85 0)) ann_compareBig_0 noL) Try.f85.ntmps c := loopsN fun i hi ann h => by
  have hn : loopN Try.f85 = 1 := by kernel_rfl
  rw [hn] at hi
  exact match i, hi, h with
    | 0, _, h => (Option.some.inj ((show (addL (firstId (loopAt Try.f85 0)) ann_compareBig_0 noL) (firstId (loopAt Try.f85 0)) = some ann_compareBig_0 from by kernel_rfl).symm.trans h)) ▸ loop_compareBig_0
set_option maxHeartbeats 1000000 in
theorem sat_compareBig : Sat Try.prog 85 ct_compareBig := by
  refine sat_typed (C := C_Nk_4) (L := (addL (firstId (loopAt Try.f85 0)) ann_compareBig_0 noL)) (wr := false) mixedOk Try.func85 C_Nk_4_ok (loops_compareBig) (fun _ => by first | rfl | (simp [ownsOf, ownsOf.ownsL, enc, encV, encS])) fun x hp => ?_
  obtain ⟨(a : Int), (b : Int), (c : Int), (d : Int), _⟩ := x
  replace hp : ((0 ≤ a ∧ a ≤ 9223372036854775807) ∧ (1 ≤ b ∧ b ≤ 9223372036854775807)) ∧ ((0 ≤ c ∧ c ≤ 9223372036854775807) ∧ (1 ≤ d ∧ d ≤ 9223372036854775807)) := hp
  have htree : exFunc Try.prog C_Nk_4 false (addL (firstId (loopAt Try.f85 0)) ann_compareBig_0 noL) Try.f85 (encA [.v (.int .i64), .v (.int .i64), .v (.int .i64), .v (.int .i64)] (a, b, c, d, ())) = .need (((((0 : Int) ≤ a ∧ a ≤ (9223372036854775807 : Int)) ∧ (1 : Int) ≤ b ∧ b ≤ (9223372036854775807 : Int)) ∧ ((0 : Int) ≤ c ∧ c ≤ (9223372036854775807 : Int)) ∧ (1 : Int) ≤ d ∧ d ≤ (9223372036854775807 : Int)) ∧ ((1 : Int) = (1 : Int) ∨ (1 : Int) = (-1 : Int))) (.leaf [.int .i64 (cmpV (1 : Int) a b c d)]) := by kernel_rfl
  refine (congrArg (Tree.ok _) htree).mpr ?_
  clear htree
  simp only [Tree.ok, packAV, AV.same, AV.same.sameL, encV, encS, enc, inK, Nd.ok, List.headD_cons, List.cons_append, List.nil_append, List.append_nil, true_and, and_true, Bool.true_and, Bool.and_true]
  repeat' first | apply And.intro | intro _
  all_goals first | omega | trivial | (simp_all; done) | grind
def C_Nk_5 : FuncId → Option Ct := addC 85 ct_compareBig C_Nk_4
theorem C_Nk_5_ok : COk Try.prog C_Nk_5 := addC_ok C_Nk_4_ok sat_compareBig
theorem freq_okF {x : tTuning.den} (hx : tuneF x = true) {k : Int} (hk : 0 ≤ k ∧ k ≤ 127) (c : (freqF x k).2 = 0) : okF (freqF x k).1.1 (freqF x k).1.2 = true := by
  have ht := hx
  simp only [tuneF, Bool.and_eq_true, decide_eq_true_eq] at ht
  obtain ⟨hb, hbp, ho, hop, hlen, hr0, hrat⟩ := ht
  obtain ⟨e1, f1⟩ := freqF_ex c
  rw [f1] at c ⊢
  have hd := div_key k ((x.2.2 : List tFrac.den).length : Int) hk (by omega)
  have hr := ratT_at x.2.2 _ _ _ 0 hrat (k % ((x.2.2 : List tFrac.den).length : Int)).toNat (by omega) (by omega)
  rcases mulF_ok (freqGo_ok ho (k / ((x.2.2 : List tFrac.den).length : Int)).toNat x.1 hb) hr.1 with g | g
  · exact g.2
  · omega
def nfK (x : tTuning.den) (k : Int) : Int := (freqF x k).1.1
def dfK (x : tTuning.den) (k : Int) : Int := (freqF x k).1.2
def cfK (x : tTuning.den) (k : Int) : Int := (freqF x k).2
theorem keyImp_step (nf df cf : Int → Int) (xn xd k best num den : Int) (h0 : 0 ≤ k) (h : k < 128) : keyImp nf df cf xn xd (128 - k).toNat k best num den =
    if cf k ≠ 0 then best
    else if best < 0 ∨ max (xn * df k - nf k * xd) (-(xn * df k - nf k * xd)) * den < num * (xd * df k) then
      keyImp nf df cf xn xd (128 - (k + 1)).toNat (k + 1) k (max (xn * df k - nf k * xd) (-(xn * df k - nf k * xd))) (xd * df k)
    else keyImp nf df cf xn xd (128 - (k + 1)).toNat (k + 1) best num den := by
  rw [show (128 - k).toNat = (128 - (k + 1)).toNat + 1 by omega]; rfl
def keyS (nf df cf : Int → Int) (xn xd : Int) : Nat → Int → Int → Int → Int → Bool × Int × Int × Int
  | 0, _, best, ln, ld => (false, best, ln, ld)
  | n + 1, k, best, ln, ld =>
    if cf k ≠ 0 then (false, best, ln, ld)
    else if k = 127 ∨ xn * df k ≤ nf k * xd then (true, (if 0 < k ∧ closerK ln ld (nf k) (df k) xn xd then k else best), nf k, df k)
    else keyS nf df cf xn xd n (k + 1) (if 0 < k ∧ closerK ln ld (nf k) (df k) xn xd then k else best) (nf k) (df k)
theorem keyS_step (nf df cf : Int → Int) (xn xd k best ln ld : Int) (h0 : 0 ≤ k) (h : k < 128) : keyS nf df cf xn xd (128 - k).toNat k best ln ld =
    if cf k ≠ 0 then (false, best, ln, ld)
    else if k = 127 ∨ xn * df k ≤ nf k * xd then (true, (if 0 < k ∧ closerK ln ld (nf k) (df k) xn xd then k else best), nf k, df k)
    else keyS nf df cf xn xd (128 - (k + 1)).toNat (k + 1) (if 0 < k ∧ closerK ln ld (nf k) (df k) xn xd then k else best) (nf k) (df k) := by
  rw [show (128 - k).toNat = (128 - (k + 1)).toNat + 1 by omega]; rfl
theorem keyS_spec (nf df cf : Int → Int) (xn xd : Int) : ∀ (n : Nat) (k best ln ld : Int), keySpec nf df cf xn xd n k best ln ld = if (keyS nf df cf xn xd n k best ln ld).1 = true then some (keyS nf df cf xn xd n k best ln ld).2.1 else keyEnd (keyS nf df cf xn xd n k best ln ld).2.1 (keyS nf df cf xn xd n k best ln ld).2.2.2
  | 0, _, _, _, _ => rfl
  | n + 1, k, best, ln, ld => by
    unfold keySpec keyS
    split
    · rfl
    · split
      · rfl
      · exact keyS_spec nf df cf xn xd n _ _ _ _
def keyOut : Option Int → Int × Int
  | some k => (k, 0)
  | none => (0, 2)
theorem keyOut_res (b : Int) : keyOut (keyRes b) = if b < 0 then (0, 2) else (b, 0) := by unfold keyRes; split <;> rfl
theorem keyOut_end (b d : Int) : keyOut (keyEnd b d) = if d = 0 then (0, 2) else (b, 0) := by unfold keyEnd; split <;> rfl
def nearF (x : tTuning.den) (a b : Int) : Int × Int := if tuneF x = true then (if okF a b = true then (if a < 0 then (0, 2) else keyOut (keySpec (nfK x) (dfK x) (cfK x) a b 128 0 0 0 0)) else (0, 1)) else (0, 1)
theorem nearF_imp {x : tTuning.den} (hx : tuneF x = true) {a b : Int} (hab : okF a b = true) : keyRes (keyImp (nfK x) (dfK x) (cfK x) a b 128 0 (-1) 0 1) = keySpec (nfK x) (dfK x) (cfK x) a b 128 0 0 0 0 := by
  have hb := (okF_bd hab).1
  refine key_same (by omega) (fun k h0 h1 hc => ?_) (fun k h0 h1 hc hc' => freq_rise hx h0 hc hc')
  have := (okF_bd (freq_okF hx ⟨h0, h1⟩ hc)).1
  unfold dfK
  omega
theorem dist_bd {a b c d : Int} (h1 : okF a b = true) (h2 : okF c d = true) : (0 ≤ max (a * d - c * b) (-(a * d - c * b)) ∧ max (a * d - c * b) (-(a * d - c * b)) ≤ 2000000000000000) ∧ (1 ≤ b * d ∧ b * d ≤ 1000000000000) := by
  have k1 := okF_bd h1
  have k2 := okF_bd h2
  have h1 := mul_bd k1.2 k2.1
  have h2 := mul_bd k2.2 k1.1
  have h3 := mul_bd2 k1.1 k2.1
  omega
theorem cmpV_lt (a b c d : Int) : cmpV 1 a b c d < 0 ↔ a * d < c * b := by
  unfold cmpV
  split
  · omega
  · split <;> omega
theorem cmpF_ge (a b c d : Int) : 0 ≤ cmpF a b c d ↔ c * b ≤ a * d := by
  unfold cmpF
  split
  · omega
  · split <;> omega
def ann_iNearestKey_0 : LAnn := { sameS := [2, 3, 4, 5], modS := [6, 7, 8, 9], sameH := [2, 3], modH := [], base := 900000, nilE := [], nilB := [], G := fun
  | ⟨[.ptr 2 0, .ptr 3 0, .int .i64 r0, .int .i64 r1], [.box [.int .i64 b1, .int .i64 b2, .int .i64 oa, .int .i64 ob, .view (.pair (.int .i64) (.int .i64)) rs], .box [.int .i64 xn, .int .i64 xd]], [.int .i64 best, .int .i64 num, .int .i64 den, .int .i64 key], []⟩ => some (.p ((tuneF ((b1, b2), (oa, ob), rs) = true ∧ okF xn xd = true) ∧ (0 ≤ key ∧ key ≤ 128) ∧ (0 ≤ num ∧ num ≤ 2000000000000000) ∧ (1 ≤ den ∧ den ≤ 1000000000000)), .leaf (.exit 0) [.int .i64 (keyImp (nfK ((b1, b2), (oa, ob), rs)) (dfK ((b1, b2), (oa, ob), rs)) (cfK ((b1, b2), (oa, ob), rs)) xn xd (128 - key).toNat key best num den), .unk, .unk, .unk] [])
  | _ => none }
def ct_iNearestKey : Ct := ctOf [.s tTuning, .s tFrac] (fun ((x : tTuning.den), ((a : Int), (b : Int)), _) => .p (((x.2.2 : List tFrac.den).length : Int) ≤ 9223372036854775807)) (fun ((x : tTuning.den), ((a : Int), (b : Int)), _) => .tup [.int .i64 (nearF x a b).1, .int .i64 (nearF x a b).2])
set_option maxHeartbeats 1000000 in
theorem loop_iNearestKey_0 : LoopSat Try.prog Try.f19.ntmps (loopAt Try.f19 0) ann_iNearestKey_0 := by
  refine loopSat_of (C := C_Nk_5) (L := (addL (firstId (loopAt Try.f19 0)) ann_iNearestKey_0 noL)) (wr := false) mixedOk C_Nk_5_ok (loopsIn0 (by kernel_rfl)) (fun d => match d.vals with | [_, _, _, .int _ k] => (128 - k).toNat | _ => 0) fun d p t hG hp => ?_
  simp only [ann_iNearestKey_0] at hG
  split at hG
  rotate_left
  · simp at hG
  rename_i r0 r1 b1 b2 oa ob rs xn xd best num den key
  simp only [Option.some.injEq, Prod.mk.injEq] at hG
  obtain ⟨rfl, rfl⟩ := hG
  have htree : exRound Try.prog C_Nk_5 false (addL (firstId (loopAt Try.f19 0)) ann_iNearestKey_0 noL) Try.f19.ntmps ann_iNearestKey_0 (loopAt Try.f19 0) ⟨[.ptr 2 0, .ptr 3 0, .int .i64 r0, .int .i64 r1], [.box [.int .i64 b1, .int .i64 b2, .int .i64 oa, .int .i64 ob, .view tFrac rs], .box [.int .i64 xn, .int .i64 xd]], [.int .i64 best, .int .i64 num, .int .i64 den, .int .i64 key], []⟩ = .ite (decide (key ≤ (127 : Int))) (.need (tuneF ((b1, b2), (oa, ob), rs) = true ∧ (0 : Int) ≤ key ∧ key ≤ (127 : Int)) (.ite ((freqF ((b1, b2), (oa, ob), rs) key).snd != (0 : Int)) (.leaf ((.exit 0), ⟨[.ptr 2 0, .ptr 3 0, .int .i64 (r0), .int .i64 (r1)], [.box [.int .i64 (b1), .int .i64 (b2), .int .i64 (oa), .int .i64 (ob), .view (I64.pair I64) (rs)], .box [.int .i64 (xn), .int .i64 (xd)]], [.int .i64 (best), .int .i64 (num), .int .i64 (den), .int .i64 (key)], []⟩)) (.need ((((1 : Int) ≤ xd ∧ xd ≤ (1000000 : Int)) ∧ (-1000000000 : Int) ≤ xn ∧ xn ≤ (1000000000 : Int)) ∧ ((1 : Int) ≤ (freqF ((b1, b2), (oa, ob), rs) key).fst.snd ∧ (freqF ((b1, b2), (oa, ob), rs) key).fst.snd ≤ (1000000 : Int)) ∧ (-1000000000 : Int) ≤ (freqF ((b1, b2), (oa, ob), rs) key).fst.fst ∧ (freqF ((b1, b2), (oa, ob), rs) key).fst.fst ≤ (1000000000 : Int)) (.ite (decide (best < (0 : Int))) (.need (inK IntKind.i64 (key + (1 : Int))) (.leaf (.normal, ⟨[.ptr 2 0, .ptr 3 0, .int .i64 (r0), .int .i64 (r1)], [.box [.int .i64 (b1), .int .i64 (b2), .int .i64 (oa), .int .i64 (ob), .view (I64.pair I64) (rs)], .box [.int .i64 (xn), .int .i64 (xd)]], [.int .i64 (key), .int .i64 (max (xn * (freqF ((b1, b2), (oa, ob), rs) key).fst.snd - (freqF ((b1, b2), (oa, ob), rs) key).fst.fst * xd) (-(xn * (freqF ((b1, b2), (oa, ob), rs) key).fst.snd - (freqF ((b1, b2), (oa, ob), rs) key).fst.fst * xd))), .int .i64 (xd * (freqF ((b1, b2), (oa, ob), rs) key).fst.snd), .int .i64 (key + (1 : Int))], []⟩))) (.need ((((0 : Int) ≤ max (xn * (freqF ((b1, b2), (oa, ob), rs) key).fst.snd - (freqF ((b1, b2), (oa, ob), rs) key).fst.fst * xd) (-(xn * (freqF ((b1, b2), (oa, ob), rs) key).fst.snd - (freqF ((b1, b2), (oa, ob), rs) key).fst.fst * xd)) ∧ max (xn * (freqF ((b1, b2), (oa, ob), rs) key).fst.snd - (freqF ((b1, b2), (oa, ob), rs) key).fst.fst * xd) (-(xn * (freqF ((b1, b2), (oa, ob), rs) key).fst.snd - (freqF ((b1, b2), (oa, ob), rs) key).fst.fst * xd)) ≤ (9223372036854775807 : Int)) ∧ (1 : Int) ≤ xd * (freqF ((b1, b2), (oa, ob), rs) key).fst.snd ∧ xd * (freqF ((b1, b2), (oa, ob), rs) key).fst.snd ≤ (9223372036854775807 : Int)) ∧ ((0 : Int) ≤ num ∧ num ≤ (9223372036854775807 : Int)) ∧ (1 : Int) ≤ den ∧ den ≤ (9223372036854775807 : Int)) (.ite (decide (cmpV (1 : Int) (max (xn * (freqF ((b1, b2), (oa, ob), rs) key).fst.snd - (freqF ((b1, b2), (oa, ob), rs) key).fst.fst * xd) (-(xn * (freqF ((b1, b2), (oa, ob), rs) key).fst.snd - (freqF ((b1, b2), (oa, ob), rs) key).fst.fst * xd))) (xd * (freqF ((b1, b2), (oa, ob), rs) key).fst.snd) num den < (0 : Int))) (.need (inK IntKind.i64 (key + (1 : Int))) (.leaf (.normal, ⟨[.ptr 2 0, .ptr 3 0, .int .i64 (r0), .int .i64 (r1)], [.box [.int .i64 (b1), .int .i64 (b2), .int .i64 (oa), .int .i64 (ob), .view (I64.pair I64) (rs)], .box [.int .i64 (xn), .int .i64 (xd)]], [.int .i64 (key), .int .i64 (max (xn * (freqF ((b1, b2), (oa, ob), rs) key).fst.snd - (freqF ((b1, b2), (oa, ob), rs) key).fst.fst * xd) (-(xn * (freqF ((b1, b2), (oa, ob), rs) key).fst.snd - (freqF ((b1, b2), (oa, ob), rs) key).fst.fst * xd))), .int .i64 (xd * (freqF ((b1, b2), (oa, ob), rs) key).fst.snd), .int .i64 (key + (1 : Int))], []⟩))) (.need (inK IntKind.i64 (key + (1 : Int))) (.leaf (.normal, ⟨[.ptr 2 0, .ptr 3 0, .int .i64 (r0), .int .i64 (r1)], [.box [.int .i64 (b1), .int .i64 (b2), .int .i64 (oa), .int .i64 (ob), .view (I64.pair I64) (rs)], .box [.int .i64 (xn), .int .i64 (xd)]], [.int .i64 (best), .int .i64 (num), .int .i64 (den), .int .i64 (key + (1 : Int))], []⟩))))))))) (.leaf ((.exit 0), ⟨[.ptr 2 0, .ptr 3 0, .int .i64 (r0), .int .i64 (r1)], [.box [.int .i64 (b1), .int .i64 (b2), .int .i64 (oa), .int .i64 (ob), .view (I64.pair I64) (rs)], .box [.int .i64 (xn), .int .i64 (xd)]], [.int .i64 (best), .int .i64 (num), .int .i64 (den), .int .i64 (key)], []⟩)) := by kernel_rfl
  rw [htree]
  clear htree
  replace hp : (tuneF ((b1, b2), (oa, ob), rs) = true ∧ okF xn xd = true) ∧ (0 ≤ key ∧ key ≤ 128) ∧ (0 ≤ num ∧ num ≤ 2000000000000000) ∧ (1 ≤ den ∧ den ≤ 1000000000000) := hp
  obtain ⟨⟨ht, hx⟩, hk, hn, hd⟩ := hp
  have h1 := keyImp_step (nfK ((b1, b2), (oa, ob), rs)) (dfK ((b1, b2), (oa, ob), rs)) (cfK ((b1, b2), (oa, ob), rs)) xn xd key best num den hk.1
  have e1 : nfK ((b1, b2), (oa, ob), rs) key = (freqF ((b1, b2), (oa, ob), rs) key).1.1 := rfl
  have e2 : dfK ((b1, b2), (oa, ob), rs) key = (freqF ((b1, b2), (oa, ob), rs) key).1.2 := rfl
  have e3 : cfK ((b1, b2), (oa, ob), rs) key = (freqF ((b1, b2), (oa, ob), rs) key).2 := rfl
  simp only [e1, e2, e3] at h1
  have hok := fun (h : key < 128) hc => freq_okF ht (k := key) ⟨hk.1, by omega⟩ hc
  simp only [Tree.ok, packAV, AV.same, AV.same.sameL, encV, encS, enc, inK, Nd.ok, List.headD_cons, List.cons_append, List.nil_append, List.append_nil, true_and, and_true, Bool.true_and, Bool.and_true, loop_next, weakBs_nil, weakBs_cons, weakB_self, weakB_row, weakB_int, weakL_nil, weakL_unk, weakL_int, weakL_bool, weakL_str, weakL_own, weakL_view, weakL_nilS, noRow_int, noRow_bool, own_inj, LTree.val, cond_true, cond_false, Prod.mk.injEq, List.cons.injEq, AV.int.injEq, AV.bool.injEq, AV.str.injEq, AV.agg.injEq, ann_iNearestKey_0, decide_eq_true_eq, decide_eq_false_iff_not, cmpV_lt, bne_iff_ne, ne_eq, bne_eq_false_iff_eq]
  have h2 : ¬ key < 128 → keyImp (nfK ((b1, b2), (oa, ob), rs)) (dfK ((b1, b2), (oa, ob), rs)) (cfK ((b1, b2), (oa, ob), rs)) xn xd (128 - key).toNat key best num den = best := fun h => by rw [show (128 - key).toNat = 0 by omega]; rfl
  generalize keyImp (nfK ((b1, b2), (oa, ob), rs)) (dfK ((b1, b2), (oa, ob), rs)) (cfK ((b1, b2), (oa, ob), rs)) xn xd = G at *
  generalize freqF ((b1, b2), (oa, ob), rs) key = F at *
  obtain ⟨⟨p, q⟩, c⟩ := F
  dsimp only at *
  refine ⟨fun ha => ?_, fun ha => ?_⟩
  · rw [h1 (by omega)]
    have hok := hok (by omega)
    by_cases hc : c = 0
    · have hok := hok hc
      have hb := okF_bd hok
      have hbx := okF_bd hx
      have hdd := dist_bd hx hok
      rw [if_neg (fun h => h hc)]
      by_cases hs : best < 0 ∨ max (xn * q - p * xd) (-(xn * q - p * xd)) * den < num * (xd * q)
      · rw [if_pos hs]
        generalize G (128 - (key + 1)).toNat (key + 1) = G' at *
        repeat' first | apply And.intro | intro _
        all_goals first | omega | assumption | trivial | (simp [Tree.ok, packAV, AV.same, AV.same.sameL, encV, encS, enc, inK, Nd.ok, List.headD_cons, List.cons_append, List.nil_append, List.append_nil, true_and, and_true, Bool.true_and, Bool.and_true, loop_next, weakBs_nil, weakBs_cons, weakB_self, weakB_row, weakB_int, weakL_nil, weakL_unk, weakL_int, weakL_bool, weakL_str, weakL_own, weakL_view, weakL_nilS, noRow_int, noRow_bool, own_inj, LTree.val, cond_true, cond_false, Prod.mk.injEq, List.cons.injEq, AV.int.injEq, AV.bool.injEq, AV.str.injEq, AV.agg.injEq]; done) | (simp_all; done) | (simp_all; omega)
      · rw [if_neg hs]
        generalize G (128 - (key + 1)).toNat (key + 1) = G' at *
        repeat' first | apply And.intro | intro _
        all_goals first | omega | assumption | trivial | (simp [Tree.ok, packAV, AV.same, AV.same.sameL, encV, encS, enc, inK, Nd.ok, List.headD_cons, List.cons_append, List.nil_append, List.append_nil, true_and, and_true, Bool.true_and, Bool.and_true, loop_next, weakBs_nil, weakBs_cons, weakB_self, weakB_row, weakB_int, weakL_nil, weakL_unk, weakL_int, weakL_bool, weakL_str, weakL_own, weakL_view, weakL_nilS, noRow_int, noRow_bool, own_inj, LTree.val, cond_true, cond_false, Prod.mk.injEq, List.cons.injEq, AV.int.injEq, AV.bool.injEq, AV.str.injEq, AV.agg.injEq]; done) | (simp_all; done) | (simp_all; omega)
    · rw [if_pos hc]
      repeat' first | apply And.intro | intro _
      all_goals first | omega | assumption | trivial | (simp [Tree.ok, packAV, AV.same, AV.same.sameL, encV, encS, enc, inK, Nd.ok, List.headD_cons, List.cons_append, List.nil_append, List.append_nil, true_and, and_true, Bool.true_and, Bool.and_true, loop_next, weakBs_nil, weakBs_cons, weakB_self, weakB_row, weakB_int, weakL_nil, weakL_unk, weakL_int, weakL_bool, weakL_str, weakL_own, weakL_view, weakL_nilS, noRow_int, noRow_bool, own_inj, LTree.val, cond_true, cond_false, Prod.mk.injEq, List.cons.injEq, AV.int.injEq, AV.bool.injEq, AV.str.injEq, AV.agg.injEq]; done) | (simp_all; done) | (simp_all; omega)
  · rw [h2 (by omega)]
    (try simp [Tree.ok, packAV, AV.same, AV.same.sameL, encV, encS, enc, inK, Nd.ok, List.headD_cons, List.cons_append, List.nil_append, List.append_nil, true_and, and_true, Bool.true_and, Bool.and_true, loop_next, weakBs_nil, weakBs_cons, weakB_self, weakB_row, weakB_int, weakL_nil, weakL_unk, weakL_int, weakL_bool, weakL_str, weakL_own, weakL_view, weakL_nilS, noRow_int, noRow_bool, own_inj, LTree.val, cond_true, cond_false, Prod.mk.injEq, List.cons.injEq, AV.int.injEq, AV.bool.injEq, AV.str.injEq, AV.agg.injEq])
theorem loops_iNearestKey : ∀ c, Try.f19.body = some c → LoopsOk Try.prog (addL (firstId (loopAt Try.f19 0)) ann_iNearestKey_0 noL) Try.f19.ntmps c := loopsN fun i hi ann h => by
  have hn : loopN Try.f19 = 1 := by kernel_rfl
  rw [hn] at hi
  exact match i, hi, h with
    | 0, _, h => (Option.some.inj ((show (addL (firstId (loopAt Try.f19 0)) ann_iNearestKey_0 noL) (firstId (loopAt Try.f19 0)) = some ann_iNearestKey_0 from by kernel_rfl).symm.trans h)) ▸ loop_iNearestKey_0
set_option maxHeartbeats 1000000 in
theorem sat_iNearestKey : Sat Try.prog 19 ct_iNearestKey := by
  refine sat_typed (C := C_Nk_5) (L := (addL (firstId (loopAt Try.f19 0)) ann_iNearestKey_0 noL)) (wr := false) mixedOk Try.func19 C_Nk_5_ok (loops_iNearestKey) (fun _ => by first | rfl | (simp [ownsOf, ownsOf.ownsL, enc, encV, encS])) fun x hp => ?_
  obtain ⟨(x : tTuning.den), ⟨(a : Int), (b : Int)⟩, _⟩ := x
  replace hp : ((x.2.2 : List tFrac.den).length : Int) ≤ 9223372036854775807 := hp
  have htree : exFunc Try.prog C_Nk_5 false (addL (firstId (loopAt Try.f19 0)) ann_iNearestKey_0 noL) Try.f19 (encA [.s tTuning, .s tFrac] (x, (a, b), ())) = .need ((↑(List.length x.snd.snd) : Int) ≤ (9223372036854775807 : Int)) (.ite (!tuneF ((x.fst.fst, x.fst.snd), (x.snd.fst.fst, x.snd.fst.snd), x.snd.snd)) (.leaf [.int .i64 ((0 : Int)), .int .i64 ((1 : Int))]) (.ite (!okF a b) (.leaf [.int .i64 ((0 : Int)), .int .i64 ((1 : Int))]) (.ite (decide (a < (0 : Int))) (.leaf [.int .i64 ((0 : Int)), .int .i64 ((2 : Int))]) (.need ((tuneF ((x.fst.fst, x.fst.snd), (x.snd.fst.fst, x.snd.fst.snd), x.snd.snd) = true ∧ okF a b = true) ∧ ((0 : Int) ≤ (0 : Int) ∧ (0 : Int) ≤ (128 : Int)) ∧ ((0 : Int) ≤ (0 : Int) ∧ (0 : Int) ≤ (2000000000000000 : Int)) ∧ (1 : Int) ≤ (1 : Int) ∧ (1 : Int) ≤ (1000000000000 : Int)) (.ite (decide (keyImp (nfK ((x.fst.fst, x.fst.snd), (x.snd.fst.fst, x.snd.fst.snd), x.snd.snd)) (dfK ((x.fst.fst, x.fst.snd), (x.snd.fst.fst, x.snd.fst.snd), x.snd.snd)) (cfK ((x.fst.fst, x.fst.snd), (x.snd.fst.fst, x.snd.fst.snd), x.snd.snd)) a b ((128 : Int) - (0 : Int)).toNat (0 : Int) (-1 : Int) (0 : Int) (1 : Int) < (0 : Int))) (.leaf [.int .i64 ((0 : Int)), .int .i64 ((2 : Int))]) (.leaf [.int .i64 (keyImp (nfK ((x.fst.fst, x.fst.snd), (x.snd.fst.fst, x.snd.fst.snd), x.snd.snd)) (dfK ((x.fst.fst, x.fst.snd), (x.snd.fst.fst, x.snd.fst.snd), x.snd.snd)) (cfK ((x.fst.fst, x.fst.snd), (x.snd.fst.fst, x.snd.fst.snd), x.snd.snd)) a b ((128 : Int) - (0 : Int)).toNat (0 : Int) (-1 : Int) (0 : Int) (1 : Int)), .int .i64 ((0 : Int))])))))) := by kernel_rfl
  refine (congrArg (Tree.ok _) htree).mpr ?_
  clear htree
  have e0 : ((x.1.1, x.1.2), (x.2.1.1, x.2.1.2), x.2.2) = x := rfl
  simp only [Tree.ok, packAV, AV.same, AV.same.sameL, encV, encS, enc, inK, Nd.ok, List.headD_cons, List.cons_append, List.nil_append, List.append_nil, true_and, and_true, Bool.true_and, Bool.and_true, e0, nearF, decide_eq_true_eq, decide_eq_false_iff_not, Bool.not_eq_true', Bool.not_eq_false']
  rw [show ((128 : Int) - 0).toNat = 128 from rfl]
  by_cases ht : tuneF x = true
  · by_cases ho : okF a b = true
    · have hn := nearF_imp ht ho
      simp only [if_pos ht, if_pos ho, ← hn, keyOut_res]
      by_cases ha0 : a < 0 <;> (try simp only [if_pos ha0]) <;> (try simp only [if_neg ha0])
      all_goals generalize keyImp (nfK x) (dfK x) (cfK x) a b 128 0 (-1) 0 1 = K at *
      all_goals by_cases hk0 : K < 0 <;> (try simp only [if_pos hk0]) <;> (try simp only [if_neg hk0])
      all_goals repeat' first | apply And.intro | intro _
      all_goals first | omega | assumption | trivial | (simp_all; done) | (simp_all; omega)
    · simp only [if_pos ht, if_neg ho]
      repeat' first | apply And.intro | intro _
      all_goals first | omega | assumption | trivial | (simp_all; done) | (simp_all; omega)
  · simp only [if_neg ht]
    repeat' first | apply And.intro | intro _
    all_goals first | omega | assumption | trivial | (simp_all; done) | (simp_all; omega)
def C_Nk_6 : FuncId → Option Ct := addC 19 ct_iNearestKey C_Nk_5
theorem C_Nk_6_ok : COk Try.prog C_Nk_6 := addC_ok C_Nk_5_ok sat_iNearestKey
def ann_sNearestKey_0 : LAnn := { sameS := [2, 3, 7], modS := [4, 5, 6, 8], sameH := [2, 3], modH := [7], base := 900000, nilE := [], nilB := [], G := fun
  | ⟨[.ptr 2 0, .ptr 3 0, .ptr 7 0], [.box [.int .i64 b1, .int .i64 b2, .int .i64 oa, .int .i64 ob, .view (.pair (.int .i64) (.int .i64)) rs], .box [.int .i64 xn, .int .i64 xd]], [.int .i64 r0, .int .i64 r1, .int .i64 best, .int .i64 key], [[.int .i64 ln, .int .i64 ld]]⟩ => some (.p ((tuneF ((b1, b2), (oa, ob), rs) = true ∧ okF xn xd = true) ∧ (0 ≤ key ∧ key ≤ 128) ∧ (0 < key → okF ln ld = true)), .ite ((keyS (nfK ((b1, b2), (oa, ob), rs)) (dfK ((b1, b2), (oa, ob), rs)) (cfK ((b1, b2), (oa, ob), rs)) xn xd (128 - key).toNat key best ln ld).1) (.leaf .ret [.int .i64 (keyS (nfK ((b1, b2), (oa, ob), rs)) (dfK ((b1, b2), (oa, ob), rs)) (cfK ((b1, b2), (oa, ob), rs)) xn xd (128 - key).toNat key best ln ld).2.1, .int .i64 0, .unk, .unk] [[.unk, .unk]]) (.leaf (.exit 0) [.int .i64 r0, .int .i64 r1, .int .i64 (keyS (nfK ((b1, b2), (oa, ob), rs)) (dfK ((b1, b2), (oa, ob), rs)) (cfK ((b1, b2), (oa, ob), rs)) xn xd (128 - key).toNat key best ln ld).2.1, .unk] [[.int .i64 (keyS (nfK ((b1, b2), (oa, ob), rs)) (dfK ((b1, b2), (oa, ob), rs)) (cfK ((b1, b2), (oa, ob), rs)) xn xd (128 - key).toNat key best ln ld).2.2.1, .int .i64 (keyS (nfK ((b1, b2), (oa, ob), rs)) (dfK ((b1, b2), (oa, ob), rs)) (cfK ((b1, b2), (oa, ob), rs)) xn xd (128 - key).toNat key best ln ld).2.2.2]]))
  | _ => none }
def ct_sNearestKey : Ct := ctOf [.s tTuning, .s tFrac] (fun ((x : tTuning.den), ((a : Int), (b : Int)), _) => .p (((x.2.2 : List tFrac.den).length : Int) ≤ 9223372036854775807)) (fun ((x : tTuning.den), ((a : Int), (b : Int)), _) => .tup [.int .i64 (nearF x a b).1, .int .i64 (nearF x a b).2])
set_option maxHeartbeats 1000000 in
theorem loop_sNearestKey_0 : LoopSat Try.prog Try.f16.ntmps (loopAt Try.f16 0) ann_sNearestKey_0 := by
  refine loopSat_of (C := C_Nk_6) (L := (addL (firstId (loopAt Try.f16 0)) ann_sNearestKey_0 noL)) (wr := false) mixedOk C_Nk_6_ok (loopsIn0 (by kernel_rfl)) (fun d => match d.vals with | [_, _, _, .int _ k] => (128 - k).toNat | _ => 0) fun d p t hG hp => ?_
  simp only [ann_sNearestKey_0] at hG
  split at hG
  rotate_left
  · simp at hG
  rename_i b1 b2 oa ob rs xn xd r0 r1 best key ln ld
  simp only [Option.some.injEq, Prod.mk.injEq] at hG
  obtain ⟨rfl, rfl⟩ := hG
  have htree : exRound Try.prog C_Nk_6 false (addL (firstId (loopAt Try.f16 0)) ann_sNearestKey_0 noL) Try.f16.ntmps ann_sNearestKey_0 (loopAt Try.f16 0) ⟨[.ptr 2 0, .ptr 3 0, .ptr 7 0], [.box [.int .i64 b1, .int .i64 b2, .int .i64 oa, .int .i64 ob, .view tFrac rs], .box [.int .i64 xn, .int .i64 xd]], [.int .i64 r0, .int .i64 r1, .int .i64 best, .int .i64 key], [[.int .i64 ln, .int .i64 ld]]⟩ = .ite (decide (key ≤ (127 : Int))) (.need (tuneF ((b1, b2), (oa, ob), rs) = true ∧ (0 : Int) ≤ key ∧ key ≤ (127 : Int)) (.ite ((freqF ((b1, b2), (oa, ob), rs) key).snd != (0 : Int)) (.leaf ((.exit 0), ⟨[.ptr 2 0, .ptr 3 0, .ptr 7 0], [.box [.int .i64 (b1), .int .i64 (b2), .int .i64 (oa), .int .i64 (ob), .view (I64.pair I64) (rs)], .box [.int .i64 (xn), .int .i64 (xd)]], [.int .i64 (r0), .int .i64 (r1), .int .i64 (best), .int .i64 (key)], [[.int .i64 (ln), .int .i64 (ld)]]⟩)) (.ite (decide ((0 : Int) < key)) (.need ((((1 : Int) ≤ ld ∧ ld ≤ (1000000 : Int)) ∧ (-1000000000 : Int) ≤ ln ∧ ln ≤ (1000000000 : Int)) ∧ (((1 : Int) ≤ (freqF ((b1, b2), (oa, ob), rs) key).fst.snd ∧ (freqF ((b1, b2), (oa, ob), rs) key).fst.snd ≤ (1000000 : Int)) ∧ (-1000000000 : Int) ≤ (freqF ((b1, b2), (oa, ob), rs) key).fst.fst ∧ (freqF ((b1, b2), (oa, ob), rs) key).fst.fst ≤ (1000000000 : Int)) ∧ ((1 : Int) ≤ xd ∧ xd ≤ (1000000 : Int)) ∧ (-1000000000 : Int) ≤ xn ∧ xn ≤ (1000000000 : Int)) (.ite (decide (ln * xd < xn * ld ∧ ((freqF ((b1, b2), (oa, ob), rs) key).fst.fst * xd ≤ xn * (freqF ((b1, b2), (oa, ob), rs) key).fst.snd ∨ ((freqF ((b1, b2), (oa, ob), rs) key).fst.fst * xd - xn * (freqF ((b1, b2), (oa, ob), rs) key).fst.snd) * ld < (xn * ld - ln * xd) * (freqF ((b1, b2), (oa, ob), rs) key).fst.snd))) (.ite (key == (127 : Int)) (.leaf (.ret, ⟨[.ptr 2 0, .ptr 3 0, .ptr 7 0], [.box [.int .i64 (b1), .int .i64 (b2), .int .i64 (oa), .int .i64 (ob), .view (I64.pair I64) (rs)], .box [.int .i64 (xn), .int .i64 (xd)]], [.int .i64 (key), .int .i64 ((0 : Int)), .int .i64 (key), .int .i64 (key)], [[.int .i64 ((freqF ((b1, b2), (oa, ob), rs) key).fst.fst), .int .i64 ((freqF ((b1, b2), (oa, ob), rs) key).fst.snd)]]⟩)) (.need ((((1 : Int) ≤ (freqF ((b1, b2), (oa, ob), rs) key).fst.snd ∧ (freqF ((b1, b2), (oa, ob), rs) key).fst.snd ≤ (1000000 : Int)) ∧ (-1000000000 : Int) ≤ (freqF ((b1, b2), (oa, ob), rs) key).fst.fst ∧ (freqF ((b1, b2), (oa, ob), rs) key).fst.fst ≤ (1000000000 : Int)) ∧ ((1 : Int) ≤ xd ∧ xd ≤ (1000000 : Int)) ∧ (-1000000000 : Int) ≤ xn ∧ xn ≤ (1000000000 : Int)) (.ite (decide ((0 : Int) ≤ cmpF (freqF ((b1, b2), (oa, ob), rs) key).fst.fst (freqF ((b1, b2), (oa, ob), rs) key).fst.snd xn xd)) (.leaf (.ret, ⟨[.ptr 2 0, .ptr 3 0, .ptr 7 0], [.box [.int .i64 (b1), .int .i64 (b2), .int .i64 (oa), .int .i64 (ob), .view (I64.pair I64) (rs)], .box [.int .i64 (xn), .int .i64 (xd)]], [.int .i64 (key), .int .i64 ((0 : Int)), .int .i64 (key), .int .i64 (key)], [[.int .i64 ((freqF ((b1, b2), (oa, ob), rs) key).fst.fst), .int .i64 ((freqF ((b1, b2), (oa, ob), rs) key).fst.snd)]]⟩)) (.need (inK IntKind.i64 (key + (1 : Int))) (.leaf (.normal, ⟨[.ptr 2 0, .ptr 3 0, .ptr 7 0], [.box [.int .i64 (b1), .int .i64 (b2), .int .i64 (oa), .int .i64 (ob), .view (I64.pair I64) (rs)], .box [.int .i64 (xn), .int .i64 (xd)]], [.int .i64 (r0), .int .i64 (r1), .int .i64 (key), .int .i64 (key + (1 : Int))], [[.int .i64 ((freqF ((b1, b2), (oa, ob), rs) key).fst.fst), .int .i64 ((freqF ((b1, b2), (oa, ob), rs) key).fst.snd)]]⟩)))))) (.ite (key == (127 : Int)) (.leaf (.ret, ⟨[.ptr 2 0, .ptr 3 0, .ptr 7 0], [.box [.int .i64 (b1), .int .i64 (b2), .int .i64 (oa), .int .i64 (ob), .view (I64.pair I64) (rs)], .box [.int .i64 (xn), .int .i64 (xd)]], [.int .i64 (best), .int .i64 ((0 : Int)), .int .i64 (best), .int .i64 (key)], [[.int .i64 ((freqF ((b1, b2), (oa, ob), rs) key).fst.fst), .int .i64 ((freqF ((b1, b2), (oa, ob), rs) key).fst.snd)]]⟩)) (.need ((((1 : Int) ≤ (freqF ((b1, b2), (oa, ob), rs) key).fst.snd ∧ (freqF ((b1, b2), (oa, ob), rs) key).fst.snd ≤ (1000000 : Int)) ∧ (-1000000000 : Int) ≤ (freqF ((b1, b2), (oa, ob), rs) key).fst.fst ∧ (freqF ((b1, b2), (oa, ob), rs) key).fst.fst ≤ (1000000000 : Int)) ∧ ((1 : Int) ≤ xd ∧ xd ≤ (1000000 : Int)) ∧ (-1000000000 : Int) ≤ xn ∧ xn ≤ (1000000000 : Int)) (.ite (decide ((0 : Int) ≤ cmpF (freqF ((b1, b2), (oa, ob), rs) key).fst.fst (freqF ((b1, b2), (oa, ob), rs) key).fst.snd xn xd)) (.leaf (.ret, ⟨[.ptr 2 0, .ptr 3 0, .ptr 7 0], [.box [.int .i64 (b1), .int .i64 (b2), .int .i64 (oa), .int .i64 (ob), .view (I64.pair I64) (rs)], .box [.int .i64 (xn), .int .i64 (xd)]], [.int .i64 (best), .int .i64 ((0 : Int)), .int .i64 (best), .int .i64 (key)], [[.int .i64 ((freqF ((b1, b2), (oa, ob), rs) key).fst.fst), .int .i64 ((freqF ((b1, b2), (oa, ob), rs) key).fst.snd)]]⟩)) (.need (inK IntKind.i64 (key + (1 : Int))) (.leaf (.normal, ⟨[.ptr 2 0, .ptr 3 0, .ptr 7 0], [.box [.int .i64 (b1), .int .i64 (b2), .int .i64 (oa), .int .i64 (ob), .view (I64.pair I64) (rs)], .box [.int .i64 (xn), .int .i64 (xd)]], [.int .i64 (r0), .int .i64 (r1), .int .i64 (best), .int .i64 (key + (1 : Int))], [[.int .i64 ((freqF ((b1, b2), (oa, ob), rs) key).fst.fst), .int .i64 ((freqF ((b1, b2), (oa, ob), rs) key).fst.snd)]]⟩)))))))) (.ite (key == (127 : Int)) (.leaf (.ret, ⟨[.ptr 2 0, .ptr 3 0, .ptr 7 0], [.box [.int .i64 (b1), .int .i64 (b2), .int .i64 (oa), .int .i64 (ob), .view (I64.pair I64) (rs)], .box [.int .i64 (xn), .int .i64 (xd)]], [.int .i64 (best), .int .i64 ((0 : Int)), .int .i64 (best), .int .i64 (key)], [[.int .i64 ((freqF ((b1, b2), (oa, ob), rs) key).fst.fst), .int .i64 ((freqF ((b1, b2), (oa, ob), rs) key).fst.snd)]]⟩)) (.need ((((1 : Int) ≤ (freqF ((b1, b2), (oa, ob), rs) key).fst.snd ∧ (freqF ((b1, b2), (oa, ob), rs) key).fst.snd ≤ (1000000 : Int)) ∧ (-1000000000 : Int) ≤ (freqF ((b1, b2), (oa, ob), rs) key).fst.fst ∧ (freqF ((b1, b2), (oa, ob), rs) key).fst.fst ≤ (1000000000 : Int)) ∧ ((1 : Int) ≤ xd ∧ xd ≤ (1000000 : Int)) ∧ (-1000000000 : Int) ≤ xn ∧ xn ≤ (1000000000 : Int)) (.ite (decide ((0 : Int) ≤ cmpF (freqF ((b1, b2), (oa, ob), rs) key).fst.fst (freqF ((b1, b2), (oa, ob), rs) key).fst.snd xn xd)) (.leaf (.ret, ⟨[.ptr 2 0, .ptr 3 0, .ptr 7 0], [.box [.int .i64 (b1), .int .i64 (b2), .int .i64 (oa), .int .i64 (ob), .view (I64.pair I64) (rs)], .box [.int .i64 (xn), .int .i64 (xd)]], [.int .i64 (best), .int .i64 ((0 : Int)), .int .i64 (best), .int .i64 (key)], [[.int .i64 ((freqF ((b1, b2), (oa, ob), rs) key).fst.fst), .int .i64 ((freqF ((b1, b2), (oa, ob), rs) key).fst.snd)]]⟩)) (.need (inK IntKind.i64 (key + (1 : Int))) (.leaf (.normal, ⟨[.ptr 2 0, .ptr 3 0, .ptr 7 0], [.box [.int .i64 (b1), .int .i64 (b2), .int .i64 (oa), .int .i64 (ob), .view (I64.pair I64) (rs)], .box [.int .i64 (xn), .int .i64 (xd)]], [.int .i64 (r0), .int .i64 (r1), .int .i64 (best), .int .i64 (key + (1 : Int))], [[.int .i64 ((freqF ((b1, b2), (oa, ob), rs) key).fst.fst), .int .i64 ((freqF ((b1, b2), (oa, ob), rs) key).fst.snd)]]⟩))))))))) (.leaf ((.exit 0), ⟨[.ptr 2 0, .ptr 3 0, .ptr 7 0], [.box [.int .i64 (b1), .int .i64 (b2), .int .i64 (oa), .int .i64 (ob), .view (I64.pair I64) (rs)], .box [.int .i64 (xn), .int .i64 (xd)]], [.int .i64 (r0), .int .i64 (r1), .int .i64 (best), .int .i64 (key)], [[.int .i64 (ln), .int .i64 (ld)]]⟩)) := by kernel_rfl
  rw [htree]
  clear htree
  replace hp : (tuneF ((b1, b2), (oa, ob), rs) = true ∧ okF xn xd = true) ∧ (0 ≤ key ∧ key ≤ 128) ∧ (0 < key → okF ln ld = true) := hp
  obtain ⟨⟨ht, hx⟩, hk, hl⟩ := hp
  have h1 := keyS_step (nfK ((b1, b2), (oa, ob), rs)) (dfK ((b1, b2), (oa, ob), rs)) (cfK ((b1, b2), (oa, ob), rs)) xn xd key best ln ld hk.1
  have e1 : nfK ((b1, b2), (oa, ob), rs) key = (freqF ((b1, b2), (oa, ob), rs) key).1.1 := rfl
  have e2 : dfK ((b1, b2), (oa, ob), rs) key = (freqF ((b1, b2), (oa, ob), rs) key).1.2 := rfl
  have e3 : cfK ((b1, b2), (oa, ob), rs) key = (freqF ((b1, b2), (oa, ob), rs) key).2 := rfl
  simp only [e1, e2, e3, closerK] at h1
  have hok := fun (h : key < 128) hc => freq_okF ht (k := key) ⟨hk.1, by omega⟩ hc
  simp only [Tree.ok, packAV, AV.same, AV.same.sameL, encV, encS, enc, inK, Nd.ok, List.headD_cons, List.cons_append, List.nil_append, List.append_nil, true_and, and_true, Bool.true_and, Bool.and_true, loop_next, weakBs_nil, weakBs_cons, weakB_self, weakB_row, weakB_int, weakL_nil, weakL_unk, weakL_int, weakL_bool, weakL_str, weakL_own, weakL_view, weakL_nilS, noRow_int, noRow_bool, own_inj, LTree.val, cond_true, cond_false, Prod.mk.injEq, List.cons.injEq, AV.int.injEq, AV.bool.injEq, AV.str.injEq, AV.agg.injEq, ann_sNearestKey_0, decide_eq_true_eq, decide_eq_false_iff_not, cmpF_ge, bne_iff_ne, ne_eq, bne_eq_false_iff_eq, beq_iff_eq, beq_eq_false_iff_ne]
  have h2 : ¬ key < 128 → keyS (nfK ((b1, b2), (oa, ob), rs)) (dfK ((b1, b2), (oa, ob), rs)) (cfK ((b1, b2), (oa, ob), rs)) xn xd (128 - key).toNat key best ln ld = (false, best, ln, ld) := fun h => by rw [show (128 - key).toNat = 0 by omega]; rfl
  generalize keyS (nfK ((b1, b2), (oa, ob), rs)) (dfK ((b1, b2), (oa, ob), rs)) (cfK ((b1, b2), (oa, ob), rs)) xn xd = G at *
  generalize freqF ((b1, b2), (oa, ob), rs) key = F at *
  obtain ⟨⟨p, q⟩, c⟩ := F
  dsimp only at *
  refine ⟨fun ha => ?_, fun ha => ?_⟩
  · rw [h1 (by omega)]
    have hok := hok (by omega)
    by_cases hc : c = 0
    · have hok := hok hc
      have hb := okF_bd hok
      have hbx := okF_bd hx
      have hbl := fun h => okF_bd (hl h)
      rw [if_neg (fun h => h hc)]
      by_cases he : key = 127 ∨ xn * q ≤ p * xd
      · rw [if_pos he]
        by_cases hs : 0 < key ∧ ln * xd < xn * ld ∧ (p * xd ≤ xn * q ∨ (p * xd - xn * q) * ld < (xn * ld - ln * xd) * q)
        · rw [if_pos hs]
          repeat' first | apply And.intro | intro _
          all_goals first | omega | assumption | trivial | (simp [Tree.ok, packAV, AV.same, AV.same.sameL, encV, encS, enc, inK, Nd.ok, List.headD_cons, List.cons_append, List.nil_append, List.append_nil, true_and, and_true, Bool.true_and, Bool.and_true, loop_next, weakBs_nil, weakBs_cons, weakB_self, weakB_row, weakB_int, weakL_nil, weakL_unk, weakL_int, weakL_bool, weakL_str, weakL_own, weakL_view, weakL_nilS, noRow_int, noRow_bool, own_inj, LTree.val, cond_true, cond_false, Prod.mk.injEq, List.cons.injEq, AV.int.injEq, AV.bool.injEq, AV.str.injEq, AV.agg.injEq]; done) | (simp_all; done) | (simp_all; omega)
        · rw [if_neg hs]
          repeat' first | apply And.intro | intro _
          all_goals first | omega | assumption | trivial | (simp [Tree.ok, packAV, AV.same, AV.same.sameL, encV, encS, enc, inK, Nd.ok, List.headD_cons, List.cons_append, List.nil_append, List.append_nil, true_and, and_true, Bool.true_and, Bool.and_true, loop_next, weakBs_nil, weakBs_cons, weakB_self, weakB_row, weakB_int, weakL_nil, weakL_unk, weakL_int, weakL_bool, weakL_str, weakL_own, weakL_view, weakL_nilS, noRow_int, noRow_bool, own_inj, LTree.val, cond_true, cond_false, Prod.mk.injEq, List.cons.injEq, AV.int.injEq, AV.bool.injEq, AV.str.injEq, AV.agg.injEq]; done) | (simp_all; done) | (simp_all; omega)
      · rw [if_neg he]
        by_cases hs : 0 < key ∧ ln * xd < xn * ld ∧ (p * xd ≤ xn * q ∨ (p * xd - xn * q) * ld < (xn * ld - ln * xd) * q)
        · rw [if_pos hs]
          generalize G (128 - (key + 1)).toNat (key + 1) = G' at *
          repeat' first | apply And.intro | intro _
          all_goals first | omega | assumption | trivial | (simp [Tree.ok, packAV, AV.same, AV.same.sameL, encV, encS, enc, inK, Nd.ok, List.headD_cons, List.cons_append, List.nil_append, List.append_nil, true_and, and_true, Bool.true_and, Bool.and_true, loop_next, weakBs_nil, weakBs_cons, weakB_self, weakB_row, weakB_int, weakL_nil, weakL_unk, weakL_int, weakL_bool, weakL_str, weakL_own, weakL_view, weakL_nilS, noRow_int, noRow_bool, own_inj, LTree.val, cond_true, cond_false, Prod.mk.injEq, List.cons.injEq, AV.int.injEq, AV.bool.injEq, AV.str.injEq, AV.agg.injEq]; done) | (simp_all; done) | (simp_all; omega)
        · rw [if_neg hs]
          generalize G (128 - (key + 1)).toNat (key + 1) = G' at *
          repeat' first | apply And.intro | intro _
          all_goals first | omega | assumption | trivial | (simp [Tree.ok, packAV, AV.same, AV.same.sameL, encV, encS, enc, inK, Nd.ok, List.headD_cons, List.cons_append, List.nil_append, List.append_nil, true_and, and_true, Bool.true_and, Bool.and_true, loop_next, weakBs_nil, weakBs_cons, weakB_self, weakB_row, weakB_int, weakL_nil, weakL_unk, weakL_int, weakL_bool, weakL_str, weakL_own, weakL_view, weakL_nilS, noRow_int, noRow_bool, own_inj, LTree.val, cond_true, cond_false, Prod.mk.injEq, List.cons.injEq, AV.int.injEq, AV.bool.injEq, AV.str.injEq, AV.agg.injEq]; done) | (simp_all; done) | (simp_all; omega)
    · rw [if_pos hc]
      repeat' first | apply And.intro | intro _
      all_goals first | omega | assumption | trivial | (simp [Tree.ok, packAV, AV.same, AV.same.sameL, encV, encS, enc, inK, Nd.ok, List.headD_cons, List.cons_append, List.nil_append, List.append_nil, true_and, and_true, Bool.true_and, Bool.and_true, loop_next, weakBs_nil, weakBs_cons, weakB_self, weakB_row, weakB_int, weakL_nil, weakL_unk, weakL_int, weakL_bool, weakL_str, weakL_own, weakL_view, weakL_nilS, noRow_int, noRow_bool, own_inj, LTree.val, cond_true, cond_false, Prod.mk.injEq, List.cons.injEq, AV.int.injEq, AV.bool.injEq, AV.str.injEq, AV.agg.injEq]; done) | (simp_all; done) | (simp_all; omega)
  · rw [h2 (by omega)]
    (try simp [Tree.ok, packAV, AV.same, AV.same.sameL, encV, encS, enc, inK, Nd.ok, List.headD_cons, List.cons_append, List.nil_append, List.append_nil, true_and, and_true, Bool.true_and, Bool.and_true, loop_next, weakBs_nil, weakBs_cons, weakB_self, weakB_row, weakB_int, weakL_nil, weakL_unk, weakL_int, weakL_bool, weakL_str, weakL_own, weakL_view, weakL_nilS, noRow_int, noRow_bool, own_inj, LTree.val, cond_true, cond_false, Prod.mk.injEq, List.cons.injEq, AV.int.injEq, AV.bool.injEq, AV.str.injEq, AV.agg.injEq])
theorem loops_sNearestKey : ∀ c, Try.f16.body = some c → LoopsOk Try.prog (addL (firstId (loopAt Try.f16 0)) ann_sNearestKey_0 noL) Try.f16.ntmps c := loopsN fun i hi ann h => by
  have hn : loopN Try.f16 = 1 := by kernel_rfl
  rw [hn] at hi
  exact match i, hi, h with
    | 0, _, h => (Option.some.inj ((show (addL (firstId (loopAt Try.f16 0)) ann_sNearestKey_0 noL) (firstId (loopAt Try.f16 0)) = some ann_sNearestKey_0 from by kernel_rfl).symm.trans h)) ▸ loop_sNearestKey_0
set_option maxHeartbeats 1000000 in
theorem sat_sNearestKey : Sat Try.prog 16 ct_sNearestKey := by
  refine sat_typed (C := C_Nk_6) (L := (addL (firstId (loopAt Try.f16 0)) ann_sNearestKey_0 noL)) (wr := false) mixedOk Try.func16 C_Nk_6_ok (loops_sNearestKey) (fun _ => by first | rfl | (simp [ownsOf, ownsOf.ownsL, enc, encV, encS])) fun x hp => ?_
  obtain ⟨(x : tTuning.den), ⟨(a : Int), (b : Int)⟩, _⟩ := x
  replace hp : ((x.2.2 : List tFrac.den).length : Int) ≤ 9223372036854775807 := hp
  have htree : exFunc Try.prog C_Nk_6 false (addL (firstId (loopAt Try.f16 0)) ann_sNearestKey_0 noL) Try.f16 (encA [.s tTuning, .s tFrac] (x, (a, b), ())) = .need ((↑(List.length x.snd.snd) : Int) ≤ (9223372036854775807 : Int)) (.ite (!tuneF ((x.fst.fst, x.fst.snd), (x.snd.fst.fst, x.snd.fst.snd), x.snd.snd)) (.leaf [.int .i64 ((0 : Int)), .int .i64 ((1 : Int))]) (.ite (!okF a b) (.leaf [.int .i64 ((0 : Int)), .int .i64 ((1 : Int))]) (.ite (decide (a < (0 : Int))) (.leaf [.int .i64 ((0 : Int)), .int .i64 ((2 : Int))]) (.need ((tuneF ((x.fst.fst, x.fst.snd), (x.snd.fst.fst, x.snd.fst.snd), x.snd.snd) = true ∧ okF a b = true) ∧ ((0 : Int) ≤ (0 : Int) ∧ (0 : Int) ≤ (128 : Int)) ∧ ((0 : Int) < (0 : Int) → okF (0 : Int) (0 : Int) = true)) (.ite ((keyS (nfK ((x.fst.fst, x.fst.snd), (x.snd.fst.fst, x.snd.fst.snd), x.snd.snd)) (dfK ((x.fst.fst, x.fst.snd), (x.snd.fst.fst, x.snd.fst.snd), x.snd.snd)) (cfK ((x.fst.fst, x.fst.snd), (x.snd.fst.fst, x.snd.fst.snd), x.snd.snd)) a b ((128 : Int) - (0 : Int)).toNat (0 : Int) (0 : Int) (0 : Int) (0 : Int)).fst) (.leaf [.int .i64 ((keyS (nfK ((x.fst.fst, x.fst.snd), (x.snd.fst.fst, x.snd.fst.snd), x.snd.snd)) (dfK ((x.fst.fst, x.fst.snd), (x.snd.fst.fst, x.snd.fst.snd), x.snd.snd)) (cfK ((x.fst.fst, x.fst.snd), (x.snd.fst.fst, x.snd.fst.snd), x.snd.snd)) a b ((128 : Int) - (0 : Int)).toNat (0 : Int) (0 : Int) (0 : Int) (0 : Int)).snd.fst), .int .i64 ((0 : Int))]) (.ite ((keyS (nfK ((x.fst.fst, x.fst.snd), (x.snd.fst.fst, x.snd.fst.snd), x.snd.snd)) (dfK ((x.fst.fst, x.fst.snd), (x.snd.fst.fst, x.snd.fst.snd), x.snd.snd)) (cfK ((x.fst.fst, x.fst.snd), (x.snd.fst.fst, x.snd.fst.snd), x.snd.snd)) a b ((128 : Int) - (0 : Int)).toNat (0 : Int) (0 : Int) (0 : Int) (0 : Int)).snd.snd.snd == (0 : Int)) (.leaf [.int .i64 ((0 : Int)), .int .i64 ((2 : Int))]) (.leaf [.int .i64 ((keyS (nfK ((x.fst.fst, x.fst.snd), (x.snd.fst.fst, x.snd.fst.snd), x.snd.snd)) (dfK ((x.fst.fst, x.fst.snd), (x.snd.fst.fst, x.snd.fst.snd), x.snd.snd)) (cfK ((x.fst.fst, x.fst.snd), (x.snd.fst.fst, x.snd.fst.snd), x.snd.snd)) a b ((128 : Int) - (0 : Int)).toNat (0 : Int) (0 : Int) (0 : Int) (0 : Int)).snd.fst), .int .i64 ((0 : Int))]))))))) := by kernel_rfl
  refine (congrArg (Tree.ok _) htree).mpr ?_
  clear htree
  have e0 : ((x.1.1, x.1.2), (x.2.1.1, x.2.1.2), x.2.2) = x := rfl
  simp only [Tree.ok, packAV, AV.same, AV.same.sameL, encV, encS, enc, inK, Nd.ok, List.headD_cons, List.cons_append, List.nil_append, List.append_nil, true_and, and_true, Bool.true_and, Bool.and_true, e0, nearF, decide_eq_true_eq, decide_eq_false_iff_not, Bool.not_eq_true', Bool.not_eq_false']
  rw [show ((128 : Int) - 0).toNat = 128 from rfl]
  by_cases ht : tuneF x = true
  · by_cases ho : okF a b = true
    · have hn := keyS_spec (nfK x) (dfK x) (cfK x) a b 128 0 0 0 0
      simp only [if_pos ht, if_pos ho, hn]
      generalize keyS (nfK x) (dfK x) (cfK x) a b 128 0 0 0 0 = K at *
      obtain ⟨k1, k2, k3, k4⟩ := K
      dsimp only at *
      cases k1
      · simp only [Bool.false_eq_true, if_false, keyOut_end]
        by_cases ha0 : a < 0 <;> (try simp only [if_pos ha0]) <;> (try simp only [if_neg ha0])
        all_goals by_cases hk0 : k4 = 0 <;> (try simp only [if_pos hk0]) <;> (try simp only [if_neg hk0])
        all_goals repeat' first | apply And.intro | intro _
        all_goals first | omega | assumption | trivial | (simp_all; done) | (simp_all; omega)
      · simp only [if_true, keyOut]
        by_cases ha0 : a < 0 <;> (try simp only [if_pos ha0]) <;> (try simp only [if_neg ha0])
        all_goals repeat' first | apply And.intro | intro _
        all_goals first | omega | assumption | trivial | (simp_all; done) | (simp_all; omega)
    · simp only [if_pos ht, if_neg ho]
      repeat' first | apply And.intro | intro _
      all_goals first | omega | assumption | trivial | (simp_all; done) | (simp_all; omega)
  · simp only [if_neg ht]
    repeat' first | apply And.intro | intro _
    all_goals first | omega | assumption | trivial | (simp_all; done) | (simp_all; omega)
def C_Nk_7 : FuncId → Option Ct := addC 16 ct_sNearestKey C_Nk_6
theorem C_Nk_7_ok : COk Try.prog C_Nk_7 := addC_ok C_Nk_6_ok sat_sNearestKey
def ct_lawNearestKey : Ct := ctOf [.s tTuning, .s tFrac] (fun ((x : tTuning.den), ((a : Int), (b : Int)), _) => .p (((x.2.2 : List tFrac.den).length : Int) ≤ 9223372036854775807)) (fun ((x : tTuning.den), ((a : Int), (b : Int)), _) => .bool true)
set_option maxHeartbeats 1000000 in
theorem sat_lawNearestKey : Sat Try.prog 3 ct_lawNearestKey := by
  refine sat_typed (C := C_Nk_7) (L := noL) (wr := false) mixedOk Try.func3 C_Nk_7_ok (loops0 (by kernel_rfl)) (fun _ => by first | rfl | (simp [ownsOf, ownsOf.ownsL, enc, encV, encS])) fun x hp => ?_
  obtain ⟨(x : tTuning.den), ⟨(a : Int), (b : Int)⟩, _⟩ := x
  replace hp : ((x.2.2 : List tFrac.den).length : Int) ≤ 9223372036854775807 := hp
  have htree : exFunc Try.prog C_Nk_7 false noL Try.f3 (encA [.s tTuning, .s tFrac] (x, (a, b), ())) = .need (((0 : Int) ≤ (1048576 : Int) ∧ (1048576 : Int) ≤ (1048576 : Int)) ∧ (↑(List.length x.snd.snd) : Int) ≤ (9223372036854775807 : Int)) (.ite (decide ((if (1048576 : Int) - (↑(List.length x.snd.snd) : Int) < (0 : Int) then (-1 : Int) else (1048576 : Int) - (↑(List.length x.snd.snd) : Int)) < (0 : Int))) (.leaf [.lit true]) (.need (List.length x.snd.snd ≤ (16777216 : Nat)) (.need ((↑(List.length x.snd.snd) : Int) ≤ (9223372036854775807 : Int)) (.need (List.length x.snd.snd ≤ (16777216 : Nat)) (.need ((↑(List.length x.snd.snd) : Int) ≤ (9223372036854775807 : Int)) (.ite ((nearF ((x.fst.fst, x.fst.snd), (x.snd.fst.fst, x.snd.fst.snd), x.snd.snd) a b).fst != (nearF ((x.fst.fst, x.fst.snd), (x.snd.fst.fst, x.snd.fst.snd), x.snd.snd) a b).fst) (.leaf [.lit false]) (.ite ((nearF ((x.fst.fst, x.fst.snd), (x.snd.fst.fst, x.snd.fst.snd), x.snd.snd) a b).snd != (nearF ((x.fst.fst, x.fst.snd), (x.snd.fst.fst, x.snd.fst.snd), x.snd.snd) a b).snd) (.leaf [.lit false]) (.need (List.length x.snd.snd ≤ (16777216 : Nat)) (.need ((↑(List.length x.snd.snd) : Int) ≤ (9223372036854775807 : Int)) (.ite (!decide (x.fst.fst = x.fst.fst ∧ x.fst.snd = x.fst.snd ∧ x.snd.fst.fst = x.snd.fst.fst ∧ x.snd.fst.snd = x.snd.fst.snd ∧ x.snd.snd = x.snd.snd)) (.leaf [.lit false]) (.leaf [.lit true]))))))))))) := by kernel_rfl
  refine (congrArg (Tree.ok _) htree).mpr ?_
  clear htree
  simp only [Tree.ok, packAV, AV.same, AV.same.sameL, encV, encS, enc, inK, Nd.ok, List.headD_cons, List.cons_append, List.nil_append, List.append_nil, true_and, and_true, Bool.true_and, Bool.and_true]
  repeat' first | apply And.intro | intro _
  all_goals first | omega | grind
def C_Nk_8 : FuncId → Option Ct := addC 3 ct_lawNearestKey C_Nk_7
theorem C_Nk_8_ok : COk Try.prog C_Nk_8 := addC_ok C_Nk_7_ok sat_lawNearestKey

def C_Nk : FuncId → Option Ct := C_Nk_8
theorem C_Nk_ok : COk Try.prog C_Nk := C_Nk_8_ok
end Go.Proofs.Ytdglkoeojhakhaa
