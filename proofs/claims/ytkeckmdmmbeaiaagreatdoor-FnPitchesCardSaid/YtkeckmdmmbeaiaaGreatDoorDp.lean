/- Contracts: what is drawn from bytes: next, pick, one, among. Conditions: as each says. -/
import Derived.Test.YtkeckmdmmbeaiaaGreatDoorPe
set_option linter.unusedSimpArgs false
set_option linter.unusedVariables false
namespace Go.Proofs.YtkeckmdmmbeaiaaGreatDoor
open Go.RowKit Sx
set_option maxRecDepth 100000
set_option maxHeartbeats 1000000
abbrev tSrc : Ty := .pair (.seq (.int .u8)) (.pair I64 (.int .u64))
abbrev Src := List Int × Int × Int
def srcB (s : Src) : Int := if s.2.1 < ((s.1 : List Int).length : Int) then (s.1 : List Int).getD s.2.1.toNat 0 else 0
def seedN (s : Src) : Int := IntKind.u64.wrap (IntKind.u64.wrap (IntKind.u64.wrap (s.2.2 * 6364136223846793005) + IntKind.u64.wrap (srcB s)) + 1442695040888963407)
def nextN (s : Src) : Src := (s.1, s.2.1 + 1, seedN s)
def nextV (s : Src) : Int := if s.2.1 + 1 ≤ ((s.1 : List Int).length : Int) then srcB s else seedN s / 1099511627776 % 256
/-- Bytes, a place not below 0 and at most n. -/
structure okS (s : Src) (n : Int) : Prop where
  lo : 0 ≤ s.2.1
  hi : s.2.1 ≤ n
  by8 : ∀ z ∈ (s.1 : List Int), 0 ≤ z ∧ z ≤ 255
theorem srcB_bd {s : Src} {n : Int} (h : okS s n) : 0 ≤ srcB s ∧ srcB s ≤ 255 := by
  unfold srcB
  split
  · rename_i hl
    have h0 := h.lo
    rw [getD_lt _ _ _ (by omega)]
    exact h.by8 _ (List.getElem_mem _)
  · omega
theorem u64w (z : Int) : 0 ≤ IntKind.u64.wrap z ∧ IntKind.u64.wrap z ≤ 18446744073709551615 := by
  simp only [IntKind.wrap, IntKind.bits, IntKind.signed]
  simp
  omega
theorem seedN_bd (s : Src) : 0 ≤ seedN s ∧ seedN s ≤ 18446744073709551615 := u64w _
theorem nextV_bd {s : Src} {n : Int} (h : okS s n) : 0 ≤ nextV s ∧ nextV s ≤ 255 := by
  have h1 := srcB_bd h
  have h2 := seedN_bd s
  unfold nextV
  split <;> omega
theorem nextN_ok {s : Src} {n : Int} (h : okS s n) : okS (nextN s) (n + 1) := ⟨by have := h.lo; show 0 ≤ s.2.1 + 1; omega, by have := h.hi; show s.2.1 + 1 ≤ n + 1; omega, h.by8⟩
theorem okS.mono {s : Src} {n m : Int} (h : okS s n) (hm : n ≤ m) : okS s m := ⟨h.lo, by have := h.hi; omega, h.by8⟩
theorem and255 (n : Int) (h : 0 ≤ n) : ((n.toNat &&& 255 : Nat) : Int) = n % 256 := by
  have := Nat.and_two_pow_sub_one_eq_mod n.toNat 8
  rw [show (255 : Nat) = 2 ^ 8 - 1 by decide, this]
  omega
def pickS (s : Src) (n : Int) : Int × Src :=
  if n ≤ 1 then (0, s) else if 200 < n then ((nextV s * 256 + nextV (nextN s)) % n, nextN (nextN s)) else (nextV s % n, nextN s)
theorem pickS_ok {s : Src} {m : Int} (h : okS s m) (n : Int) : okS (pickS s n).2 (m + 2) := by
  unfold pickS
  split
  · exact h.mono (by omega)
  · split
    · have := nextN_ok (nextN_ok h); exact this.mono (by omega)
    · exact (nextN_ok h).mono (by omega)
theorem pickS_bd {s : Src} {m : Int} (h : okS s m) (n : Int) : 0 ≤ (pickS s n).1 ∧ (1 ≤ n → (pickS s n).1 ≤ n - 1) ∧ (n ≤ 1 → (pickS s n).1 = 0) := by
  have h1 := nextV_bd h
  have h2 := nextV_bd (nextN_ok h)
  unfold pickS
  split
  · exact ⟨by simp, fun _ => by simp only; omega, fun _ => rfl⟩
  · rename_i hn
    have e1 := Int.emod_nonneg (nextV s * 256 + nextV (nextN s)) (b := n) (by omega)
    have e2 := Int.emod_lt_of_pos (nextV s * 256 + nextV (nextN s)) (b := n) (by omega)
    have e3 := Int.emod_nonneg (nextV s) (b := n) (by omega)
    have e4 := Int.emod_lt_of_pos (nextV s) (b := n) (by omega)
    split
    · exact ⟨e1, fun _ => by simp only; omega, fun h => absurd h hn⟩
    · exact ⟨e3, fun _ => by simp only; omega, fun h => absurd h hn⟩
def amongS (s : Src) (xs : List Int) : Int × Src := (xs.getD (pickS s xs.length).1.toNat 0, (pickS s xs.length).2)
theorem amongS_ok {s : Src} {m : Int} (h : okS s m) (xs : List Int) : okS (amongS s xs).2 (m + 2) := pickS_ok h _
theorem amongS_mem {s : Src} {m : Int} (h : okS s m) (xs : List Int) (hx : 1 ≤ (xs.length : Int)) : (amongS s xs).1 ∈ xs := by
  have hb := pickS_bd h (xs.length : Int)
  have hb1 := hb.2.1 hx
  show xs.getD _ 0 ∈ xs
  rw [getD_lt _ _ _ (by omega)]
  exact List.getElem_mem _
def ct_l00From : Ct := ctOfN [.v (.seq (.int .u8))] (fun _ => .tt) tSrc (fun ((code : List (Ty.int .u8).den), _) => (code, 0, 0))
set_option maxHeartbeats 1000000 in
theorem sat_l00From : Sat Tryz.prog 54 ct_l00From := by
  refine sat_typedN (C := C_Pe) (L := noL) (wr := false) mixedOk Tryz.func54 C_Pe_ok (loops0 (by kernel_rfl))  fun x hp => ?_
  obtain ⟨(code : List (Ty.int .u8).den), _⟩ := x
  clear hp
  have htree : exFuncN Tryz.prog C_Pe false noL Tryz.f54 (encA [.v (.seq (.int .u8))] (code, ())) = .leaf ⟨(Ty.int IntKind.u8).seq.pair ((Ty.int IntKind.i64).pair (Ty.int IntKind.u64)), (code, (0 : Int), (0 : Int))⟩ := by kernel_rfl
  refine (congrArg (Tree.ok _) htree).mpr ?_
  clear htree
  simp only [Tree.ok, tyd_inj, packAV, AV.same, AV.same.sameL, encV, encS, enc, inK, Nd.ok, List.headD_cons, List.cons_append, List.nil_append, List.append_nil, true_and, and_true, Bool.true_and, Bool.and_true]
def C_Dp_1 : FuncId → Option Ct := addC 54 ct_l00From C_Pe
theorem C_Dp_1_ok : COk Tryz.prog C_Dp_1 := addC_ok C_Pe_ok sat_l00From
def ct_next : Ct := ctOfB tSrc [] (fun ((code : List (Ty.int .u8).den), (a : Int), (sd : Int)) _ => .p (okS (code, a, sd) 1000000000)) (fun ((code : List (Ty.int .u8).den), (a : Int), (sd : Int)) _ => .int .i64 (nextV (code, a, sd))) (fun ((code : List (Ty.int .u8).den), (a : Int), (sd : Int)) _ => nextN (code, a, sd))
set_option maxHeartbeats 1000000 in
theorem sat_next : Sat Tryz.prog 147 ct_next := by
  refine sat_typedB (C := C_Dp_1) (L := noL) (wr := true) mixedOk Tryz.func147 C_Dp_1_ok (loops0 (by kernel_rfl)) (fun _ _ => by first | rfl | (simp [ownsOf, ownsOf.ownsL, enc, encV, encS])) fun bx x hp => ?_
  obtain ⟨(code : List (Ty.int .u8).den), (a : Int), (sd : Int)⟩ := bx
  obtain _ := x
  replace hp : okS (code, a, sd) 1000000000 := hp
  have htree : exFuncB Tryz.prog C_Dp_1 true noL Tryz.f147 (encA [] ()) ⟨tSrc, (code, a, sd)⟩ = .ite (decide (a < (↑code.length : Int))) (.need ((0 : Int) ≤ a ∧ a < (↑code.length : Int)) (.ite (decide (IntKind.i64.wrap (a + (1 : Int)) ≤ (↑code.length : Int))) (.leaf ([.int .i64 (IntKind.i64.wrap (getT (Ty.int IntKind.u8) code a))], ⟨(Ty.int IntKind.u8).seq.pair ((Ty.int IntKind.i64).pair (Ty.int IntKind.u64)), (code, IntKind.i64.wrap (a + (1 : Int)), IntKind.u64.wrap (IntKind.u64.wrap (IntKind.u64.wrap (sd * (6364136223846793005 : Int)) + IntKind.u64.wrap (IntKind.i64.wrap (getT (Ty.int IntKind.u8) code a))) + (1442695040888963407 : Int)))⟩)) (.need (((0 : Int) ≤ (40 : Int) ∧ (40 : Int) ≤ (63 : Int)) ∧ (IntKind.u64 = IntKind.i64 ∨ IntKind.u64 = IntKind.u64)) (.need (((0 : Int) ≤ IntKind.u64.wrap (IntKind.u64.wrap (IntKind.u64.wrap (sd * (6364136223846793005 : Int)) + IntKind.u64.wrap (IntKind.i64.wrap (getT (Ty.int IntKind.u8) code a))) + (1442695040888963407 : Int)) / (2 : Int) ^ Int.toNat (40 : Int) ∧ IntKind.u64.wrap (IntKind.u64.wrap (IntKind.u64.wrap (sd * (6364136223846793005 : Int)) + IntKind.u64.wrap (IntKind.i64.wrap (getT (Ty.int IntKind.u8) code a))) + (1442695040888963407 : Int)) / (2 : Int) ^ Int.toNat (40 : Int) ≤ (9223372036854775807 : Int)) ∧ ((0 : Int) ≤ (255 : Int) ∧ (255 : Int) ≤ (9223372036854775807 : Int)) ∧ (IntKind.u64 = IntKind.i64 ∨ IntKind.u64 = IntKind.u64)) (.leaf ([.int .i64 (IntKind.i64.wrap (↑((IntKind.u64.wrap (IntKind.u64.wrap (IntKind.u64.wrap (sd * (6364136223846793005 : Int)) + IntKind.u64.wrap (IntKind.i64.wrap (getT (Ty.int IntKind.u8) code a))) + (1442695040888963407 : Int)) / (2 : Int) ^ Int.toNat (40 : Int)).toNat &&& Int.toNat (255 : Int)) : Int))], ⟨(Ty.int IntKind.u8).seq.pair ((Ty.int IntKind.i64).pair (Ty.int IntKind.u64)), (code, IntKind.i64.wrap (a + (1 : Int)), IntKind.u64.wrap (IntKind.u64.wrap (IntKind.u64.wrap (sd * (6364136223846793005 : Int)) + IntKind.u64.wrap (IntKind.i64.wrap (getT (Ty.int IntKind.u8) code a))) + (1442695040888963407 : Int)))⟩)))))) (.ite (decide (IntKind.i64.wrap (a + (1 : Int)) ≤ (↑code.length : Int))) (.leaf ([.int .i64 ((0 : Int))], ⟨(Ty.int IntKind.u8).seq.pair ((Ty.int IntKind.i64).pair (Ty.int IntKind.u64)), (code, IntKind.i64.wrap (a + (1 : Int)), IntKind.u64.wrap (IntKind.u64.wrap (IntKind.u64.wrap (sd * (6364136223846793005 : Int)) + IntKind.u64.wrap (0 : Int)) + (1442695040888963407 : Int)))⟩)) (.need (((0 : Int) ≤ (40 : Int) ∧ (40 : Int) ≤ (63 : Int)) ∧ (IntKind.u64 = IntKind.i64 ∨ IntKind.u64 = IntKind.u64)) (.need (((0 : Int) ≤ IntKind.u64.wrap (IntKind.u64.wrap (IntKind.u64.wrap (sd * (6364136223846793005 : Int)) + IntKind.u64.wrap (0 : Int)) + (1442695040888963407 : Int)) / (2 : Int) ^ Int.toNat (40 : Int) ∧ IntKind.u64.wrap (IntKind.u64.wrap (IntKind.u64.wrap (sd * (6364136223846793005 : Int)) + IntKind.u64.wrap (0 : Int)) + (1442695040888963407 : Int)) / (2 : Int) ^ Int.toNat (40 : Int) ≤ (9223372036854775807 : Int)) ∧ ((0 : Int) ≤ (255 : Int) ∧ (255 : Int) ≤ (9223372036854775807 : Int)) ∧ (IntKind.u64 = IntKind.i64 ∨ IntKind.u64 = IntKind.u64)) (.leaf ([.int .i64 (IntKind.i64.wrap (↑((IntKind.u64.wrap (IntKind.u64.wrap (IntKind.u64.wrap (sd * (6364136223846793005 : Int)) + IntKind.u64.wrap (0 : Int)) + (1442695040888963407 : Int)) / (2 : Int) ^ Int.toNat (40 : Int)).toNat &&& Int.toNat (255 : Int)) : Int))], ⟨(Ty.int IntKind.u8).seq.pair ((Ty.int IntKind.i64).pair (Ty.int IntKind.u64)), (code, IntKind.i64.wrap (a + (1 : Int)), IntKind.u64.wrap (IntKind.u64.wrap (IntKind.u64.wrap (sd * (6364136223846793005 : Int)) + IntKind.u64.wrap (0 : Int)) + (1442695040888963407 : Int)))⟩))))) := by kernel_rfl
  refine (congrArg (Tree.ok _) htree).mpr ?_
  clear htree
  have h0 : 0 ≤ a := hp.lo
  have h1 : a ≤ 1000000000 := hp.hi
  have hb := srcB_bd hp
  have hs := seedN_bd (code, a, sd)
  have e1 : IntKind.i64.wrap (a + 1) = a + 1 := wrap_in (by simp only [inK]; omega)
  have hV : nextV (code, a, sd) = if a + 1 ≤ (code.length : Int) then srcB (code, a, sd) else seedN (code, a, sd) / 1099511627776 % 256 := rfl
  have hN : nextN (code, a, sd) = (code, a + 1, seedN (code, a, sd)) := rfl
  have hB : srcB (code, a, sd) = if a < (code.length : Int) then (code : List Int).getD a.toNat 0 else 0 := rfl
  have hS : seedN (code, a, sd) = IntKind.u64.wrap (IntKind.u64.wrap (IntKind.u64.wrap (sd * 6364136223846793005) + IntKind.u64.wrap (srcB (code, a, sd))) + 1442695040888963407) := rfl
  have hg : getT (Ty.int .u8) code a = (code : List Int).getD a.toNat 0 := rfl
  simp only [Tree.ok, tyd_inj, packAV, AV.same, AV.same.sameL, encV, encS, enc, inK, Nd.ok, List.headD_cons, List.cons_append, List.nil_append, List.append_nil, true_and, and_true, Bool.true_and, Bool.and_true, e1, hV, hN, hg]
  rw [hS] at hs ⊢
  by_cases ha : a < (code.length : Int)
  · rw [if_pos ha] at hB
    have hw : IntKind.i64.wrap ((code : List Int).getD a.toNat 0) = srcB (code, a, sd) := by rw [← hB]; exact wrap_in (by simp only [inK]; omega)
    simp only [hw]
    generalize IntKind.u64.wrap (IntKind.u64.wrap (IntKind.u64.wrap (sd * 6364136223846793005) + IntKind.u64.wrap (srcB (code, a, sd))) + 1442695040888963407) = S at *
    have h40 : (2 : Int) ^ Int.toNat 40 = 1099511627776 := by decide
    have h255 : Int.toNat 255 = 255 := rfl
    have ha5 := and255 (S / 1099511627776) (by omega)
    have hw2 : IntKind.i64.wrap (S / 1099511627776 % 256) = S / 1099511627776 % 256 := wrap_in (by simp only [inK]; omega)
    simp only [h40, h255, ha5, hw2, decide_eq_true_eq, decide_eq_false_iff_not]
    repeat' first | apply And.intro | intro _
    all_goals first | omega | trivial | (rw [if_pos ‹_›]; done) | (rw [if_neg ‹_›]; done) | (simp_all; done) | (simp_all; omega)
  · rw [if_neg ha] at hB
    rw [hB] at hs ⊢
    generalize IntKind.u64.wrap (IntKind.u64.wrap (IntKind.u64.wrap (sd * 6364136223846793005) + IntKind.u64.wrap 0) + 1442695040888963407) = S at *
    have h40 : (2 : Int) ^ Int.toNat 40 = 1099511627776 := by decide
    have h255 : Int.toNat 255 = 255 := rfl
    have ha5 := and255 (S / 1099511627776) (by omega)
    have hw2 : IntKind.i64.wrap (S / 1099511627776 % 256) = S / 1099511627776 % 256 := wrap_in (by simp only [inK]; omega)
    simp only [h40, h255, ha5, hw2, decide_eq_true_eq, decide_eq_false_iff_not]
    repeat' first | apply And.intro | intro _
    all_goals first | omega | trivial | (rw [if_pos ‹_›]; done) | (rw [if_neg ‹_›]; done) | (simp_all; done) | (simp_all; omega)
def C_Dp_2 : FuncId → Option Ct := addC 147 ct_next C_Dp_1
theorem C_Dp_2_ok : COk Tryz.prog C_Dp_2 := addC_ok C_Dp_1_ok sat_next
def ct_pick : Ct := ctOfB tSrc [.v (.int .i64)] (fun ((code : List (Ty.int .u8).den), (a : Int), (sd : Int)) ((n : Int), _) => .p (okS (code, a, sd) 900000000 ∧ n ≤ 1000000)) (fun ((code : List (Ty.int .u8).den), (a : Int), (sd : Int)) ((n : Int), _) => .int .i64 (pickS (code, a, sd) n).1) (fun ((code : List (Ty.int .u8).den), (a : Int), (sd : Int)) ((n : Int), _) => (pickS (code, a, sd) n).2)
set_option maxHeartbeats 1000000 in
theorem sat_pick : Sat Tryz.prog 107 ct_pick := by
  refine sat_typedB (C := C_Dp_2) (L := noL) (wr := false) mixedOk Tryz.func107 C_Dp_2_ok (loops0 (by kernel_rfl)) (fun _ _ => by first | rfl | (simp [ownsOf, ownsOf.ownsL, enc, encV, encS])) fun bx x hp => ?_
  obtain ⟨(code : List (Ty.int .u8).den), (a : Int), (sd : Int)⟩ := bx
  obtain ⟨(n : Int), _⟩ := x
  replace hp : okS (code, a, sd) 900000000 ∧ n ≤ 1000000 := hp
  have htree : exFuncB Tryz.prog C_Dp_2 false noL Tryz.f107 (encA [.v (.int .i64)] (n, ())) ⟨tSrc, (code, a, sd)⟩ = .ite (decide (n ≤ (1 : Int))) (.leaf ([.int .i64 ((0 : Int))], ⟨(Ty.int IntKind.u8).seq.pair ((Ty.int IntKind.i64).pair (Ty.int IntKind.u64)), (code, a, sd)⟩)) (.need (okS (code, a, sd) (1000000000 : Int)) (.ite (decide ((200 : Int) < n)) (.need (inK IntKind.i64 (nextV (code, a, sd) * (256 : Int))) (.need (okS ((nextN (code, a, sd)).fst, (nextN (code, a, sd)).snd.fst, (nextN (code, a, sd)).snd.snd) (1000000000 : Int)) (.need (inK IntKind.i64 (nextV (code, a, sd) * (256 : Int) + nextV ((nextN (code, a, sd)).fst, (nextN (code, a, sd)).snd.fst, (nextN (code, a, sd)).snd.snd))) (.need (n ≠ (0 : Int)) (.leaf ([.int .i64 ((nextV (code, a, sd) * (256 : Int) + nextV ((nextN (code, a, sd)).fst, (nextN (code, a, sd)).snd.fst, (nextN (code, a, sd)).snd.snd)).tmod n)], ⟨(Ty.int IntKind.u8).seq.pair ((Ty.int IntKind.i64).pair (Ty.int IntKind.u64)), ((nextN ((nextN (code, a, sd)).fst, (nextN (code, a, sd)).snd.fst, (nextN (code, a, sd)).snd.snd)).fst, (nextN ((nextN (code, a, sd)).fst, (nextN (code, a, sd)).snd.fst, (nextN (code, a, sd)).snd.snd)).snd.fst, (nextN ((nextN (code, a, sd)).fst, (nextN (code, a, sd)).snd.fst, (nextN (code, a, sd)).snd.snd)).snd.snd)⟩)))))) (.need (n ≠ (0 : Int)) (.leaf ([.int .i64 ((nextV (code, a, sd)).tmod n)], ⟨(Ty.int IntKind.u8).seq.pair ((Ty.int IntKind.i64).pair (Ty.int IntKind.u64)), ((nextN (code, a, sd)).fst, (nextN (code, a, sd)).snd.fst, (nextN (code, a, sd)).snd.snd)⟩))))) := by kernel_rfl
  refine (congrArg (Tree.ok _) htree).mpr ?_
  clear htree
  have h1 := hp.1.mono (show (900000000 : Int) ≤ 1000000000 by omega)
  have h2 := (nextN_ok hp.1).mono (show (900000000 : Int) + 1 ≤ 1000000000 by omega)
  have b1 := nextV_bd h1
  have b2 := nextV_bd h2
  have heta : ((nextN (code, a, sd)).1, (nextN (code, a, sd)).2.1, (nextN (code, a, sd)).2.2) = nextN (code, a, sd) := rfl
  have hP : pickS (code, a, sd) n = if n ≤ 1 then (0, (code, a, sd)) else if 200 < n then ((nextV (code, a, sd) * 256 + nextV (nextN (code, a, sd))) % n, nextN (nextN (code, a, sd))) else (nextV (code, a, sd) % n, nextN (code, a, sd)) := rfl
  simp only [Tree.ok, tyd_inj, packAV, AV.same, AV.same.sameL, encV, encS, enc, inK, Nd.ok, List.headD_cons, List.cons_append, List.nil_append, List.append_nil, true_and, and_true, Bool.true_and, Bool.and_true, heta, decide_eq_true_eq, decide_eq_false_iff_not] at *
  rw [hP]
  clear hP
  generalize nextV (nextN (code, a, sd)) = v2 at *
  generalize nextN (nextN (code, a, sd)) = s2 at *
  generalize nextV (code, a, sd) = v1 at *
  generalize nextN (code, a, sd) = s1 at *
  by_cases c1 : n ≤ 1
  · simp only [if_pos c1]
    exact ⟨fun _ => ⟨trivial, trivial⟩, fun h => absurd c1 h⟩
  · simp only [if_neg c1]
    refine ⟨fun h => absurd h c1, fun _ => ⟨h1, ?_⟩⟩
    by_cases c2 : 200 < n
    · simp only [if_pos c2]
      refine ⟨fun _ => ⟨by omega, h2, by omega, by omega, Int.tmod_eq_emod_of_nonneg (by omega), trivial⟩, fun h => absurd c2 h⟩
    · simp only [if_neg c2]
      exact ⟨fun h => absurd h c2, fun _ => ⟨by omega, Int.tmod_eq_emod_of_nonneg (by omega), trivial⟩⟩
def C_Dp_3 : FuncId → Option Ct := addC 107 ct_pick C_Dp_2
theorem C_Dp_3_ok : COk Tryz.prog C_Dp_3 := addC_ok C_Dp_2_ok sat_pick
def ct_one : Ct := ctOfB tSrc [.v (.int .i64)] (fun ((code : List (Ty.int .u8).den), (a : Int), (sd : Int)) ((n : Int), _) => .p (okS (code, a, sd) 900000000 ∧ n ≤ 1000000)) (fun ((code : List (Ty.int .u8).den), (a : Int), (sd : Int)) ((n : Int), _) => .bool (decide ((pickS (code, a, sd) n).1 = 0))) (fun ((code : List (Ty.int .u8).den), (a : Int), (sd : Int)) ((n : Int), _) => (pickS (code, a, sd) n).2)
set_option maxHeartbeats 1000000 in
theorem sat_one : Sat Tryz.prog 123 ct_one := by
  refine sat_typedB (C := C_Dp_3) (L := noL) (wr := false) mixedOk Tryz.func123 C_Dp_3_ok (loops0 (by kernel_rfl)) (fun _ _ => by first | rfl | (simp [ownsOf, ownsOf.ownsL, enc, encV, encS])) fun bx x hp => ?_
  obtain ⟨(code : List (Ty.int .u8).den), (a : Int), (sd : Int)⟩ := bx
  obtain ⟨(n : Int), _⟩ := x
  replace hp : okS (code, a, sd) 900000000 ∧ n ≤ 1000000 := hp
  have htree : exFuncB Tryz.prog C_Dp_3 false noL Tryz.f123 (encA [.v (.int .i64)] (n, ())) ⟨tSrc, (code, a, sd)⟩ = .need (okS (code, a, sd) (900000000 : Int) ∧ n ≤ (1000000 : Int)) (.leaf ([.bool ((pickS (code, a, sd) n).fst == (0 : Int))], ⟨(Ty.int IntKind.u8).seq.pair ((Ty.int IntKind.i64).pair (Ty.int IntKind.u64)), ((pickS (code, a, sd) n).snd.fst, (pickS (code, a, sd) n).snd.snd.fst, (pickS (code, a, sd) n).snd.snd.snd)⟩)) := by kernel_rfl
  refine (congrArg (Tree.ok _) htree).mpr ?_
  clear htree
  have heta : ((pickS (code, a, sd) n).2.1, (pickS (code, a, sd) n).2.2.1, (pickS (code, a, sd) n).2.2.2) = (pickS (code, a, sd) n).2 := rfl
  simp only [Tree.ok, tyd_inj, packAV, AV.same, AV.same.sameL, encV, encS, enc, inK, Nd.ok, List.headD_cons, List.cons_append, List.nil_append, List.append_nil, true_and, and_true, Bool.true_and, Bool.and_true, heta]
  exact ⟨hp, rfl⟩
def C_Dp_4 : FuncId → Option Ct := addC 123 ct_one C_Dp_3
theorem C_Dp_4_ok : COk Tryz.prog C_Dp_4 := addC_ok C_Dp_3_ok sat_one
def ct_among : Ct := ctOfB tSrc [.v (.seq I64)] (fun ((code : List (Ty.int .u8).den), (a : Int), (sd : Int)) ((xs : List Int), _) => .p (okS (code, a, sd) 900000000 ∧ 1 ≤ (xs.length : Int) ∧ (xs.length : Int) ≤ 1000000)) (fun ((code : List (Ty.int .u8).den), (a : Int), (sd : Int)) ((xs : List Int), _) => .int .i64 (amongS (code, a, sd) xs).1) (fun ((code : List (Ty.int .u8).den), (a : Int), (sd : Int)) ((xs : List Int), _) => (amongS (code, a, sd) xs).2)
set_option maxHeartbeats 1000000 in
theorem sat_among : Sat Tryz.prog 108 ct_among := by
  refine sat_typedB (C := C_Dp_4) (L := noL) (wr := false) mixedOk Tryz.func108 C_Dp_4_ok (loops0 (by kernel_rfl)) (fun _ _ => by first | rfl | (simp [ownsOf, ownsOf.ownsL, enc, encV, encS])) fun bx x hp => ?_
  obtain ⟨(code : List (Ty.int .u8).den), (a : Int), (sd : Int)⟩ := bx
  obtain ⟨(xs : List Int), _⟩ := x
  replace hp : okS (code, a, sd) 900000000 ∧ 1 ≤ (xs.length : Int) ∧ (xs.length : Int) ≤ 1000000 := hp
  have htree : exFuncB Tryz.prog C_Dp_4 false noL Tryz.f108 (encA [.v (.seq I64)] (xs, ())) ⟨tSrc, (code, a, sd)⟩ = .need (okS (code, a, sd) (900000000 : Int) ∧ (↑xs.length : Int) ≤ (1000000 : Int)) (.need ((0 : Int) ≤ (pickS (code, a, sd) (↑xs.length : Int)).fst ∧ (pickS (code, a, sd) (↑xs.length : Int)).fst < (↑xs.length : Int)) (.leaf ([.int .i64 (getT I64 xs (pickS (code, a, sd) (↑xs.length : Int)).fst)], ⟨(Ty.int IntKind.u8).seq.pair ((Ty.int IntKind.i64).pair (Ty.int IntKind.u64)), ((pickS (code, a, sd) (↑xs.length : Int)).snd.fst, (pickS (code, a, sd) (↑xs.length : Int)).snd.snd.fst, (pickS (code, a, sd) (↑xs.length : Int)).snd.snd.snd)⟩))) := by kernel_rfl
  refine (congrArg (Tree.ok _) htree).mpr ?_
  clear htree
  have heta : ((pickS (code, a, sd) xs.length).2.1, (pickS (code, a, sd) xs.length).2.2.1, (pickS (code, a, sd) xs.length).2.2.2) = (pickS (code, a, sd) xs.length).2 := rfl
  simp only [Tree.ok, tyd_inj, packAV, AV.same, AV.same.sameL, encV, encS, enc, inK, Nd.ok, List.headD_cons, List.cons_append, List.nil_append, List.append_nil, true_and, and_true, Bool.true_and, Bool.and_true, heta]
  have hb := pickS_bd (hp.1.mono (show (900000000 : Int) ≤ 900000000 by omega)) (xs.length : Int)
  have hb1 := hb.2.1 hp.2.1
  exact ⟨⟨hp.1, hp.2.2⟩, ⟨hb.1, by omega⟩, rfl, rfl⟩
def C_Dp_5 : FuncId → Option Ct := addC 108 ct_among C_Dp_4
theorem C_Dp_5_ok : COk Tryz.prog C_Dp_5 := addC_ok C_Dp_4_ok sat_among
def altL : List Int := [0, 0, 0, 1, -1, 2, -2]
def octL : List Int := [4, 4, 4, 3, 5, 2, 6, -1, 0, 9]
/-- A valid pitch, drawn. -/
def pitS (s : Src) : (Int × Int × Int) × Src :=
  ((if okP (pickS s 7).1 (amongS (pickS s 7).2 altL).1 (amongS (amongS (pickS s 7).2 altL).2 octL).1 = true then ((pickS s 7).1, (amongS (pickS s 7).2 altL).1, (amongS (amongS (pickS s 7).2 altL).2 octL).1) else (0, 0, 4)), (amongS (amongS (pickS s 7).2 altL).2 octL).2)
theorem pitS_ok {s : Src} {m : Int} (h : okS s m) : okS (pitS s).2 (m + 6) := (amongS_ok (amongS_ok (pickS_ok h 7) altL) octL).mono (by omega)
theorem pitS_bd (s : Src) : okP (pitS s).1.1 (pitS s).1.2.1 (pitS s).1.2.2 = true := by
  unfold pitS
  split
  · assumption
  · exact (by decide : okP 0 0 4 = true)
def ct_l16Draw : Ct := ctOfB tSrc [] (fun ((code : List (Ty.int .u8).den), (a : Int), (sd : Int)) _ => .p (okS (code, a, sd) 800000000)) (fun ((code : List (Ty.int .u8).den), (a : Int), (sd : Int)) _ => .agg (enc tPitch (pitS (code, a, sd)).1)) (fun ((code : List (Ty.int .u8).den), (a : Int), (sd : Int)) _ => (pitS (code, a, sd)).2)
set_option maxHeartbeats 1000000 in
theorem sat_l16Draw : Sat Tryz.prog 82 ct_l16Draw := by
  refine sat_typedB (C := C_Dp_5) (L := noL) (wr := false) mixedOk Tryz.func82 C_Dp_5_ok (loops0 (by kernel_rfl)) (fun _ _ => by first | rfl | (simp [ownsOf, ownsOf.ownsL, enc, encV, encS])) fun bx x hp => ?_
  obtain ⟨(code : List (Ty.int .u8).den), (a : Int), (sd : Int)⟩ := bx
  obtain _ := x
  replace hp : okS (code, a, sd) 800000000 := hp
  have htree : exFuncB Tryz.prog C_Dp_5 false noL Tryz.f82 (encA [] ()) ⟨tSrc, (code, a, sd)⟩ = .need (okS (code, a, sd) (900000000 : Int) ∧ (7 : Int) ≤ (1000000 : Int)) (.need (okS ((pickS (code, a, sd) (7 : Int)).snd.fst, (pickS (code, a, sd) (7 : Int)).snd.snd.fst, (pickS (code, a, sd) (7 : Int)).snd.snd.snd) (900000000 : Int) ∧ (1 : Int) ≤ (↑[(0 : Int), (0 : Int), (0 : Int), (1 : Int), (-1 : Int), (2 : Int), (-2 : Int)].length : Int) ∧ (↑[(0 : Int), (0 : Int), (0 : Int), (1 : Int), (-1 : Int), (2 : Int), (-2 : Int)].length : Int) ≤ (1000000 : Int)) (.need (okS ((amongS ((pickS (code, a, sd) (7 : Int)).snd.fst, (pickS (code, a, sd) (7 : Int)).snd.snd.fst, (pickS (code, a, sd) (7 : Int)).snd.snd.snd) [(0 : Int), (0 : Int), (0 : Int), (1 : Int), (-1 : Int), (2 : Int), (-2 : Int)]).snd.fst, (amongS ((pickS (code, a, sd) (7 : Int)).snd.fst, (pickS (code, a, sd) (7 : Int)).snd.snd.fst, (pickS (code, a, sd) (7 : Int)).snd.snd.snd) [(0 : Int), (0 : Int), (0 : Int), (1 : Int), (-1 : Int), (2 : Int), (-2 : Int)]).snd.snd.fst, (amongS ((pickS (code, a, sd) (7 : Int)).snd.fst, (pickS (code, a, sd) (7 : Int)).snd.snd.fst, (pickS (code, a, sd) (7 : Int)).snd.snd.snd) [(0 : Int), (0 : Int), (0 : Int), (1 : Int), (-1 : Int), (2 : Int), (-2 : Int)]).snd.snd.snd) (900000000 : Int) ∧ (1 : Int) ≤ (↑[(4 : Int), (4 : Int), (4 : Int), (3 : Int), (5 : Int), (2 : Int), (6 : Int), (-1 : Int), (0 : Int), (9 : Int)].length : Int) ∧ (↑[(4 : Int), (4 : Int), (4 : Int), (3 : Int), (5 : Int), (2 : Int), (6 : Int), (-1 : Int), (0 : Int), (9 : Int)].length : Int) ≤ (1000000 : Int)) (.ite (!okP (pickS (code, a, sd) (7 : Int)).fst (amongS ((pickS (code, a, sd) (7 : Int)).snd.fst, (pickS (code, a, sd) (7 : Int)).snd.snd.fst, (pickS (code, a, sd) (7 : Int)).snd.snd.snd) [(0 : Int), (0 : Int), (0 : Int), (1 : Int), (-1 : Int), (2 : Int), (-2 : Int)]).fst (amongS ((amongS ((pickS (code, a, sd) (7 : Int)).snd.fst, (pickS (code, a, sd) (7 : Int)).snd.snd.fst, (pickS (code, a, sd) (7 : Int)).snd.snd.snd) [(0 : Int), (0 : Int), (0 : Int), (1 : Int), (-1 : Int), (2 : Int), (-2 : Int)]).snd.fst, (amongS ((pickS (code, a, sd) (7 : Int)).snd.fst, (pickS (code, a, sd) (7 : Int)).snd.snd.fst, (pickS (code, a, sd) (7 : Int)).snd.snd.snd) [(0 : Int), (0 : Int), (0 : Int), (1 : Int), (-1 : Int), (2 : Int), (-2 : Int)]).snd.snd.fst, (amongS ((pickS (code, a, sd) (7 : Int)).snd.fst, (pickS (code, a, sd) (7 : Int)).snd.snd.fst, (pickS (code, a, sd) (7 : Int)).snd.snd.snd) [(0 : Int), (0 : Int), (0 : Int), (1 : Int), (-1 : Int), (2 : Int), (-2 : Int)]).snd.snd.snd) [(4 : Int), (4 : Int), (4 : Int), (3 : Int), (5 : Int), (2 : Int), (6 : Int), (-1 : Int), (0 : Int), (9 : Int)]).fst) (.leaf ([.agg [.int .i64 ((0 : Int)), .int .i64 ((0 : Int)), .int .i64 ((4 : Int))]], ⟨(Ty.int IntKind.u8).seq.pair ((Ty.int IntKind.i64).pair (Ty.int IntKind.u64)), ((amongS ((amongS ((pickS (code, a, sd) (7 : Int)).snd.fst, (pickS (code, a, sd) (7 : Int)).snd.snd.fst, (pickS (code, a, sd) (7 : Int)).snd.snd.snd) [(0 : Int), (0 : Int), (0 : Int), (1 : Int), (-1 : Int), (2 : Int), (-2 : Int)]).snd.fst, (amongS ((pickS (code, a, sd) (7 : Int)).snd.fst, (pickS (code, a, sd) (7 : Int)).snd.snd.fst, (pickS (code, a, sd) (7 : Int)).snd.snd.snd) [(0 : Int), (0 : Int), (0 : Int), (1 : Int), (-1 : Int), (2 : Int), (-2 : Int)]).snd.snd.fst, (amongS ((pickS (code, a, sd) (7 : Int)).snd.fst, (pickS (code, a, sd) (7 : Int)).snd.snd.fst, (pickS (code, a, sd) (7 : Int)).snd.snd.snd) [(0 : Int), (0 : Int), (0 : Int), (1 : Int), (-1 : Int), (2 : Int), (-2 : Int)]).snd.snd.snd) [(4 : Int), (4 : Int), (4 : Int), (3 : Int), (5 : Int), (2 : Int), (6 : Int), (-1 : Int), (0 : Int), (9 : Int)]).snd.fst, (amongS ((amongS ((pickS (code, a, sd) (7 : Int)).snd.fst, (pickS (code, a, sd) (7 : Int)).snd.snd.fst, (pickS (code, a, sd) (7 : Int)).snd.snd.snd) [(0 : Int), (0 : Int), (0 : Int), (1 : Int), (-1 : Int), (2 : Int), (-2 : Int)]).snd.fst, (amongS ((pickS (code, a, sd) (7 : Int)).snd.fst, (pickS (code, a, sd) (7 : Int)).snd.snd.fst, (pickS (code, a, sd) (7 : Int)).snd.snd.snd) [(0 : Int), (0 : Int), (0 : Int), (1 : Int), (-1 : Int), (2 : Int), (-2 : Int)]).snd.snd.fst, (amongS ((pickS (code, a, sd) (7 : Int)).snd.fst, (pickS (code, a, sd) (7 : Int)).snd.snd.fst, (pickS (code, a, sd) (7 : Int)).snd.snd.snd) [(0 : Int), (0 : Int), (0 : Int), (1 : Int), (-1 : Int), (2 : Int), (-2 : Int)]).snd.snd.snd) [(4 : Int), (4 : Int), (4 : Int), (3 : Int), (5 : Int), (2 : Int), (6 : Int), (-1 : Int), (0 : Int), (9 : Int)]).snd.snd.fst, (amongS ((amongS ((pickS (code, a, sd) (7 : Int)).snd.fst, (pickS (code, a, sd) (7 : Int)).snd.snd.fst, (pickS (code, a, sd) (7 : Int)).snd.snd.snd) [(0 : Int), (0 : Int), (0 : Int), (1 : Int), (-1 : Int), (2 : Int), (-2 : Int)]).snd.fst, (amongS ((pickS (code, a, sd) (7 : Int)).snd.fst, (pickS (code, a, sd) (7 : Int)).snd.snd.fst, (pickS (code, a, sd) (7 : Int)).snd.snd.snd) [(0 : Int), (0 : Int), (0 : Int), (1 : Int), (-1 : Int), (2 : Int), (-2 : Int)]).snd.snd.fst, (amongS ((pickS (code, a, sd) (7 : Int)).snd.fst, (pickS (code, a, sd) (7 : Int)).snd.snd.fst, (pickS (code, a, sd) (7 : Int)).snd.snd.snd) [(0 : Int), (0 : Int), (0 : Int), (1 : Int), (-1 : Int), (2 : Int), (-2 : Int)]).snd.snd.snd) [(4 : Int), (4 : Int), (4 : Int), (3 : Int), (5 : Int), (2 : Int), (6 : Int), (-1 : Int), (0 : Int), (9 : Int)]).snd.snd.snd)⟩)) (.leaf ([.agg [.int .i64 ((pickS (code, a, sd) (7 : Int)).fst), .int .i64 ((amongS ((pickS (code, a, sd) (7 : Int)).snd.fst, (pickS (code, a, sd) (7 : Int)).snd.snd.fst, (pickS (code, a, sd) (7 : Int)).snd.snd.snd) [(0 : Int), (0 : Int), (0 : Int), (1 : Int), (-1 : Int), (2 : Int), (-2 : Int)]).fst), .int .i64 ((amongS ((amongS ((pickS (code, a, sd) (7 : Int)).snd.fst, (pickS (code, a, sd) (7 : Int)).snd.snd.fst, (pickS (code, a, sd) (7 : Int)).snd.snd.snd) [(0 : Int), (0 : Int), (0 : Int), (1 : Int), (-1 : Int), (2 : Int), (-2 : Int)]).snd.fst, (amongS ((pickS (code, a, sd) (7 : Int)).snd.fst, (pickS (code, a, sd) (7 : Int)).snd.snd.fst, (pickS (code, a, sd) (7 : Int)).snd.snd.snd) [(0 : Int), (0 : Int), (0 : Int), (1 : Int), (-1 : Int), (2 : Int), (-2 : Int)]).snd.snd.fst, (amongS ((pickS (code, a, sd) (7 : Int)).snd.fst, (pickS (code, a, sd) (7 : Int)).snd.snd.fst, (pickS (code, a, sd) (7 : Int)).snd.snd.snd) [(0 : Int), (0 : Int), (0 : Int), (1 : Int), (-1 : Int), (2 : Int), (-2 : Int)]).snd.snd.snd) [(4 : Int), (4 : Int), (4 : Int), (3 : Int), (5 : Int), (2 : Int), (6 : Int), (-1 : Int), (0 : Int), (9 : Int)]).fst)]], ⟨(Ty.int IntKind.u8).seq.pair ((Ty.int IntKind.i64).pair (Ty.int IntKind.u64)), ((amongS ((amongS ((pickS (code, a, sd) (7 : Int)).snd.fst, (pickS (code, a, sd) (7 : Int)).snd.snd.fst, (pickS (code, a, sd) (7 : Int)).snd.snd.snd) [(0 : Int), (0 : Int), (0 : Int), (1 : Int), (-1 : Int), (2 : Int), (-2 : Int)]).snd.fst, (amongS ((pickS (code, a, sd) (7 : Int)).snd.fst, (pickS (code, a, sd) (7 : Int)).snd.snd.fst, (pickS (code, a, sd) (7 : Int)).snd.snd.snd) [(0 : Int), (0 : Int), (0 : Int), (1 : Int), (-1 : Int), (2 : Int), (-2 : Int)]).snd.snd.fst, (amongS ((pickS (code, a, sd) (7 : Int)).snd.fst, (pickS (code, a, sd) (7 : Int)).snd.snd.fst, (pickS (code, a, sd) (7 : Int)).snd.snd.snd) [(0 : Int), (0 : Int), (0 : Int), (1 : Int), (-1 : Int), (2 : Int), (-2 : Int)]).snd.snd.snd) [(4 : Int), (4 : Int), (4 : Int), (3 : Int), (5 : Int), (2 : Int), (6 : Int), (-1 : Int), (0 : Int), (9 : Int)]).snd.fst, (amongS ((amongS ((pickS (code, a, sd) (7 : Int)).snd.fst, (pickS (code, a, sd) (7 : Int)).snd.snd.fst, (pickS (code, a, sd) (7 : Int)).snd.snd.snd) [(0 : Int), (0 : Int), (0 : Int), (1 : Int), (-1 : Int), (2 : Int), (-2 : Int)]).snd.fst, (amongS ((pickS (code, a, sd) (7 : Int)).snd.fst, (pickS (code, a, sd) (7 : Int)).snd.snd.fst, (pickS (code, a, sd) (7 : Int)).snd.snd.snd) [(0 : Int), (0 : Int), (0 : Int), (1 : Int), (-1 : Int), (2 : Int), (-2 : Int)]).snd.snd.fst, (amongS ((pickS (code, a, sd) (7 : Int)).snd.fst, (pickS (code, a, sd) (7 : Int)).snd.snd.fst, (pickS (code, a, sd) (7 : Int)).snd.snd.snd) [(0 : Int), (0 : Int), (0 : Int), (1 : Int), (-1 : Int), (2 : Int), (-2 : Int)]).snd.snd.snd) [(4 : Int), (4 : Int), (4 : Int), (3 : Int), (5 : Int), (2 : Int), (6 : Int), (-1 : Int), (0 : Int), (9 : Int)]).snd.snd.fst, (amongS ((amongS ((pickS (code, a, sd) (7 : Int)).snd.fst, (pickS (code, a, sd) (7 : Int)).snd.snd.fst, (pickS (code, a, sd) (7 : Int)).snd.snd.snd) [(0 : Int), (0 : Int), (0 : Int), (1 : Int), (-1 : Int), (2 : Int), (-2 : Int)]).snd.fst, (amongS ((pickS (code, a, sd) (7 : Int)).snd.fst, (pickS (code, a, sd) (7 : Int)).snd.snd.fst, (pickS (code, a, sd) (7 : Int)).snd.snd.snd) [(0 : Int), (0 : Int), (0 : Int), (1 : Int), (-1 : Int), (2 : Int), (-2 : Int)]).snd.snd.fst, (amongS ((pickS (code, a, sd) (7 : Int)).snd.fst, (pickS (code, a, sd) (7 : Int)).snd.snd.fst, (pickS (code, a, sd) (7 : Int)).snd.snd.snd) [(0 : Int), (0 : Int), (0 : Int), (1 : Int), (-1 : Int), (2 : Int), (-2 : Int)]).snd.snd.snd) [(4 : Int), (4 : Int), (4 : Int), (3 : Int), (5 : Int), (2 : Int), (6 : Int), (-1 : Int), (0 : Int), (9 : Int)]).snd.snd.snd)⟩))))) := by kernel_rfl
  refine (congrArg (Tree.ok _) htree).mpr ?_
  clear htree
  have e1 : amongS (pickS (code, a, sd) 7).2 [0, 0, 0, 1, -1, 2, -2] = amongS (pickS (code, a, sd) 7).2 altL := rfl
  have e2 : ∀ s, amongS s [4, 4, 4, 3, 5, 2, 6, -1, 0, 9] = amongS s octL := fun _ => rfl
  have l1 : ([0, 0, 0, 1, -1, 2, -2] : List Int).length = 7 := rfl
  have l2 : ([4, 4, 4, 3, 5, 2, 6, -1, 0, 9] : List Int).length = 10 := rfl
  have eta : ∀ s : Src, (s.1, s.2.1, s.2.2) = s := fun _ => rfl
  have h1 := (pickS_ok hp 7).mono (show (800000000 : Int) + 2 ≤ 900000000 by omega)
  have h2 := (amongS_ok (pickS_ok hp 7) altL).mono (show (800000000 : Int) + 2 + 2 ≤ 900000000 by omega)
  have h0 := hp.mono (show (800000000 : Int) ≤ 900000000 by omega)
  have eP : pitS (code, a, sd) = ((if okP (pickS (code, a, sd) 7).1 (amongS (pickS (code, a, sd) 7).2 altL).1 (amongS (amongS (pickS (code, a, sd) 7).2 altL).2 octL).1 = true then ((pickS (code, a, sd) 7).1, (amongS (pickS (code, a, sd) 7).2 altL).1, (amongS (amongS (pickS (code, a, sd) 7).2 altL).2 octL).1) else (0, 0, 4)), (amongS (amongS (pickS (code, a, sd) 7).2 altL).2 octL).2) := rfl
  simp only [Tree.ok, tyd_inj, packAV, AV.same, AV.same.sameL, encV, encS, enc, inK, Nd.ok, List.headD_cons, List.cons_append, List.nil_append, List.append_nil, true_and, and_true, Bool.true_and, Bool.and_true, e1, e2, l1, l2, eta, eP]
  clear eP
  generalize pickS (code, a, sd) 7 = u1 at *
  obtain ⟨v1, s1⟩ := u1
  simp only at *
  generalize amongS s1 altL = u2 at *
  obtain ⟨v2, s2⟩ := u2
  simp only at *
  generalize amongS s2 octL = u3 at *
  obtain ⟨v3, s3⟩ := u3
  simp only at *
  cases hk : okP v1 v2 v3
  · simp only [Bool.not_false, Bool.false_eq_true, if_false]
    repeat' first | apply And.intro | intro _
    all_goals first | omega | exact h0 | exact h1 | exact h2 | trivial | rfl | contradiction | decide | (trace_state; fail)
  · simp only [Bool.not_true, Bool.false_eq_true, if_true]
    repeat' first | apply And.intro | intro _
    all_goals first | omega | exact h0 | exact h1 | exact h2 | trivial | rfl | contradiction | decide | (trace_state; fail)
def C_Dp_6 : FuncId → Option Ct := addC 82 ct_l16Draw C_Dp_5
theorem C_Dp_6_ok : COk Tryz.prog C_Dp_6 := addC_ok C_Dp_5_ok sat_l16Draw
def bytesOk (l : List Int) : Prop := ∀ z ∈ l, 0 ≤ z ∧ z ≤ 255
theorem from_ok {l : List Int} (h : bytesOk l) : okS ((l, 0, 0) : Src) 0 := ⟨by simp, by simp, h⟩
def pit1 (l : List Int) : Int × Int × Int := (pitS (l, 0, 0)).1
def pit2 (l : List Int) : Int × Int × Int := (pitS (pitS (l, 0, 0)).2).1
def pit3 (l : List Int) : Int × Int × Int := (pitS (pitS (pitS (l, 0, 0)).2).2).1
def ct_A2Pitches : Ct := ctOf [.v (.seq (.int .u8))] (fun ((code : List (Ty.int .u8).den), _) => .p (bytesOk code)) (fun ((code : List (Ty.int .u8).den), _) => .tup [.agg (enc tPitch (pit1 code)), .agg (enc tPitch (pit2 code)), .agg (enc tPitch (pit3 code))])
set_option maxHeartbeats 1000000 in
theorem sat_A2Pitches : Sat Tryz.prog 32 ct_A2Pitches := by
  refine sat_typed (C := C_Dp_6) (L := noL) (wr := false) mixedOk Tryz.func32 C_Dp_6_ok (loops0 (by kernel_rfl)) (fun _ => by first | rfl | (simp [ownsOf, ownsOf.ownsL, enc, encV, encS])) fun x hp => ?_
  obtain ⟨(code : List (Ty.int .u8).den), _⟩ := x
  replace hp : bytesOk code := hp
  have htree : exFunc Tryz.prog C_Dp_6 false noL Tryz.f32 (encA [.v (.seq (.int .u8))] (code, ())) = .need (okS (code, (0 : I64.den), (0 : (Ty.int IntKind.u64).den)) (800000000 : Int)) (.need (okS ((pitS (code, (0 : I64.den), (0 : (Ty.int IntKind.u64).den))).snd.fst, (pitS (code, (0 : I64.den), (0 : (Ty.int IntKind.u64).den))).snd.snd.fst, (pitS (code, (0 : I64.den), (0 : (Ty.int IntKind.u64).den))).snd.snd.snd) (800000000 : Int)) (.need (okS ((pitS ((pitS (code, (0 : I64.den), (0 : (Ty.int IntKind.u64).den))).snd.fst, (pitS (code, (0 : I64.den), (0 : (Ty.int IntKind.u64).den))).snd.snd.fst, (pitS (code, (0 : I64.den), (0 : (Ty.int IntKind.u64).den))).snd.snd.snd)).snd.fst, (pitS ((pitS (code, (0 : I64.den), (0 : (Ty.int IntKind.u64).den))).snd.fst, (pitS (code, (0 : I64.den), (0 : (Ty.int IntKind.u64).den))).snd.snd.fst, (pitS (code, (0 : I64.den), (0 : (Ty.int IntKind.u64).den))).snd.snd.snd)).snd.snd.fst, (pitS ((pitS (code, (0 : I64.den), (0 : (Ty.int IntKind.u64).den))).snd.fst, (pitS (code, (0 : I64.den), (0 : (Ty.int IntKind.u64).den))).snd.snd.fst, (pitS (code, (0 : I64.den), (0 : (Ty.int IntKind.u64).den))).snd.snd.snd)).snd.snd.snd) (800000000 : Int)) (.leaf [.agg [.int .i64 ((pitS (code, (0 : I64.den), (0 : (Ty.int IntKind.u64).den))).fst.fst), .int .i64 ((pitS (code, (0 : I64.den), (0 : (Ty.int IntKind.u64).den))).fst.snd.fst), .int .i64 ((pitS (code, (0 : I64.den), (0 : (Ty.int IntKind.u64).den))).fst.snd.snd)], .agg [.int .i64 ((pitS ((pitS (code, (0 : I64.den), (0 : (Ty.int IntKind.u64).den))).snd.fst, (pitS (code, (0 : I64.den), (0 : (Ty.int IntKind.u64).den))).snd.snd.fst, (pitS (code, (0 : I64.den), (0 : (Ty.int IntKind.u64).den))).snd.snd.snd)).fst.fst), .int .i64 ((pitS ((pitS (code, (0 : I64.den), (0 : (Ty.int IntKind.u64).den))).snd.fst, (pitS (code, (0 : I64.den), (0 : (Ty.int IntKind.u64).den))).snd.snd.fst, (pitS (code, (0 : I64.den), (0 : (Ty.int IntKind.u64).den))).snd.snd.snd)).fst.snd.fst), .int .i64 ((pitS ((pitS (code, (0 : I64.den), (0 : (Ty.int IntKind.u64).den))).snd.fst, (pitS (code, (0 : I64.den), (0 : (Ty.int IntKind.u64).den))).snd.snd.fst, (pitS (code, (0 : I64.den), (0 : (Ty.int IntKind.u64).den))).snd.snd.snd)).fst.snd.snd)], .agg [.int .i64 ((pitS ((pitS ((pitS (code, (0 : I64.den), (0 : (Ty.int IntKind.u64).den))).snd.fst, (pitS (code, (0 : I64.den), (0 : (Ty.int IntKind.u64).den))).snd.snd.fst, (pitS (code, (0 : I64.den), (0 : (Ty.int IntKind.u64).den))).snd.snd.snd)).snd.fst, (pitS ((pitS (code, (0 : I64.den), (0 : (Ty.int IntKind.u64).den))).snd.fst, (pitS (code, (0 : I64.den), (0 : (Ty.int IntKind.u64).den))).snd.snd.fst, (pitS (code, (0 : I64.den), (0 : (Ty.int IntKind.u64).den))).snd.snd.snd)).snd.snd.fst, (pitS ((pitS (code, (0 : I64.den), (0 : (Ty.int IntKind.u64).den))).snd.fst, (pitS (code, (0 : I64.den), (0 : (Ty.int IntKind.u64).den))).snd.snd.fst, (pitS (code, (0 : I64.den), (0 : (Ty.int IntKind.u64).den))).snd.snd.snd)).snd.snd.snd)).fst.fst), .int .i64 ((pitS ((pitS ((pitS (code, (0 : I64.den), (0 : (Ty.int IntKind.u64).den))).snd.fst, (pitS (code, (0 : I64.den), (0 : (Ty.int IntKind.u64).den))).snd.snd.fst, (pitS (code, (0 : I64.den), (0 : (Ty.int IntKind.u64).den))).snd.snd.snd)).snd.fst, (pitS ((pitS (code, (0 : I64.den), (0 : (Ty.int IntKind.u64).den))).snd.fst, (pitS (code, (0 : I64.den), (0 : (Ty.int IntKind.u64).den))).snd.snd.fst, (pitS (code, (0 : I64.den), (0 : (Ty.int IntKind.u64).den))).snd.snd.snd)).snd.snd.fst, (pitS ((pitS (code, (0 : I64.den), (0 : (Ty.int IntKind.u64).den))).snd.fst, (pitS (code, (0 : I64.den), (0 : (Ty.int IntKind.u64).den))).snd.snd.fst, (pitS (code, (0 : I64.den), (0 : (Ty.int IntKind.u64).den))).snd.snd.snd)).snd.snd.snd)).fst.snd.fst), .int .i64 ((pitS ((pitS ((pitS (code, (0 : I64.den), (0 : (Ty.int IntKind.u64).den))).snd.fst, (pitS (code, (0 : I64.den), (0 : (Ty.int IntKind.u64).den))).snd.snd.fst, (pitS (code, (0 : I64.den), (0 : (Ty.int IntKind.u64).den))).snd.snd.snd)).snd.fst, (pitS ((pitS (code, (0 : I64.den), (0 : (Ty.int IntKind.u64).den))).snd.fst, (pitS (code, (0 : I64.den), (0 : (Ty.int IntKind.u64).den))).snd.snd.fst, (pitS (code, (0 : I64.den), (0 : (Ty.int IntKind.u64).den))).snd.snd.snd)).snd.snd.fst, (pitS ((pitS (code, (0 : I64.den), (0 : (Ty.int IntKind.u64).den))).snd.fst, (pitS (code, (0 : I64.den), (0 : (Ty.int IntKind.u64).den))).snd.snd.fst, (pitS (code, (0 : I64.den), (0 : (Ty.int IntKind.u64).den))).snd.snd.snd)).snd.snd.snd)).fst.snd.snd)]]))) := by kernel_rfl
  refine (congrArg (Tree.ok _) htree).mpr ?_
  clear htree
  have eta : ∀ s : Src, (s.1, s.2.1, s.2.2) = s := fun _ => rfl
  have h0 := from_ok hp
  have h1 := pitS_ok h0
  have h2 := pitS_ok h1
  simp only [Tree.ok, tyd_inj, packAV, AV.same, AV.same.sameL, encV, encS, enc, inK, Nd.ok, List.headD_cons, List.cons_append, List.nil_append, List.append_nil, true_and, and_true, Bool.true_and, Bool.and_true, eta]
  refine ⟨h0.mono (by omega), h1.mono (by omega), h2.mono (by omega), ?_⟩
  repeat' apply And.intro
  all_goals rfl
def C_Dp_7 : FuncId → Option Ct := addC 32 ct_A2Pitches C_Dp_6
theorem C_Dp_7_ok : COk Tryz.prog C_Dp_7 := addC_ok C_Dp_6_ok sat_A2Pitches
def ct_a2Long : Ct := ctOf [.v (.seq (.int .u8)), .v (.seq (.int .u8))] (fun _ => .tt) (fun ((code : List (Ty.int .u8).den), (more : List (Ty.int .u8).den), _) => .bool (decide ((3000 : Int) < (code.length : Int)) || decide ((3000 : Int) < (more.length : Int))))
set_option maxHeartbeats 1000000 in
theorem sat_a2Long : Sat Tryz.prog 12 ct_a2Long := by
  refine sat_typed (C := C_Dp_7) (L := noL) (wr := false) mixedOk Tryz.func12 C_Dp_7_ok (loops0 (by kernel_rfl)) (fun _ => by first | rfl | (simp [ownsOf, ownsOf.ownsL, enc, encV, encS])) fun x hp => ?_
  obtain ⟨(code : List (Ty.int .u8).den), (more : List (Ty.int .u8).den), _⟩ := x
  clear hp
  have htree : exFunc Tryz.prog C_Dp_7 false noL Tryz.f12 (encA [.v (.seq (.int .u8)), .v (.seq (.int .u8))] (code, more, ())) = .ite (decide ((3000 : Int) < (↑code.length : Int))) (.leaf [.lit true]) (.leaf [.bool (decide ((3000 : Int) < (↑more.length : Int)))]) := by kernel_rfl
  refine (congrArg (Tree.ok _) htree).mpr ?_
  clear htree
  simp only [Tree.ok, tyd_inj, packAV, AV.same, AV.same.sameL, encV, encS, enc, inK, Nd.ok, List.headD_cons, List.cons_append, List.nil_append, List.append_nil, true_and, and_true, Bool.true_and, Bool.and_true]
  repeat' first | apply And.intro | intro _
  all_goals (simp_all; try omega)
def C_Dp_8 : FuncId → Option Ct := addC 12 ct_a2Long C_Dp_7
theorem C_Dp_8_ok : COk Tryz.prog C_Dp_8 := addC_ok C_Dp_7_ok sat_a2Long
def a2At (l : List Int) (i n : Int) : Int := if (l.length : Int) ≤ i ∨ n < 1 then 0 else l.getD i.toNat 0 % n
theorem a2At_bd {l : List Int} (h : bytesOk l) {i : Int} (hi : 0 ≤ i) (n : Int) : 0 ≤ a2At l i n ∧ (1 ≤ n → a2At l i n ≤ n - 1) := by
  unfold a2At
  split
  · exact ⟨by omega, fun _ => by omega⟩
  · rename_i hc
    have e1 := Int.emod_nonneg (l.getD i.toNat 0) (b := n) (by omega)
    have e2 := Int.emod_lt_of_pos (l.getD i.toNat 0) (b := n) (by omega)
    exact ⟨e1, fun _ => by omega⟩
def ct_a2At : Ct := ctOf [.v (.seq (.int .u8)), .v (.int .i64), .v (.int .i64)] (fun ((code : List (Ty.int .u8).den), (i : Int), (n : Int), _) => .p (bytesOk code ∧ 0 ≤ i)) (fun ((code : List (Ty.int .u8).den), (i : Int), (n : Int), _) => .int .i64 (a2At code i n))
set_option maxHeartbeats 1000000 in
theorem sat_a2At : Sat Tryz.prog 22 ct_a2At := by
  refine sat_typed (C := C_Dp_8) (L := noL) (wr := false) mixedOk Tryz.func22 C_Dp_8_ok (loops0 (by kernel_rfl)) (fun _ => by first | rfl | (simp [ownsOf, ownsOf.ownsL, enc, encV, encS])) fun x hp => ?_
  obtain ⟨(code : List (Ty.int .u8).den), (i : Int), (n : Int), _⟩ := x
  replace hp : bytesOk code ∧ 0 ≤ i := hp
  have htree : exFunc Tryz.prog C_Dp_8 false noL Tryz.f22 (encA [.v (.seq (.int .u8)), .v (.int .i64), .v (.int .i64)] (code, i, n, ())) = .ite (decide ((↑code.length : Int) ≤ i)) (.leaf [.int .i64 ((0 : Int))]) (.ite (decide (n < (1 : Int))) (.leaf [.int .i64 ((0 : Int))]) (.need ((0 : Int) ≤ i ∧ i < (↑code.length : Int)) (.need (inK IntKind.i64 (getT (Ty.int IntKind.u8) code i)) (.need (n ≠ (0 : Int)) (.leaf [.int .i64 (Int.tmod (getT (Ty.int IntKind.u8) code i) n)]))))) := by kernel_rfl
  refine (congrArg (Tree.ok _) htree).mpr ?_
  clear htree
  have hg : getT (Ty.int .u8) code i = (code : List Int).getD i.toNat 0 := rfl
  have hv : a2At code i n = if (code.length : Int) ≤ i ∨ n < 1 then 0 else (code : List Int).getD i.toNat 0 % n := rfl
  simp only [Tree.ok, tyd_inj, packAV, AV.same, AV.same.sameL, encV, encS, enc, inK, Nd.ok, List.headD_cons, List.cons_append, List.nil_append, List.append_nil, true_and, and_true, Bool.true_and, Bool.and_true, hg, hv, decide_eq_true_eq, decide_eq_false_iff_not]
  by_cases h1 : (code.length : Int) ≤ i
  · rw [if_pos (Or.inl h1)]
    exact ⟨fun _ => rfl, fun h => absurd h1 h⟩
  · by_cases h2 : n < 1
    · rw [if_pos (Or.inr h2)]
      exact ⟨fun h => absurd h h1, fun _ => ⟨fun _ => rfl, fun h => absurd h2 h⟩⟩
    · rw [if_neg (by omega)]
      have hb : 0 ≤ (code : List Int).getD i.toNat 0 ∧ (code : List Int).getD i.toNat 0 ≤ 255 := by
        rw [getD_lt _ _ _ (by omega)]
        exact hp.1 _ (List.getElem_mem _)
      refine ⟨fun h => absurd h h1, fun _ => ⟨fun h => absurd h h2, fun _ => ?_⟩⟩
      refine ⟨⟨hp.2, by omega⟩, (show (-9223372036854775808 : Int) ≤ (code : List Int).getD i.toNat 0 ∧ (code : List Int).getD i.toNat 0 ≤ 9223372036854775807 from ⟨Int.le_trans (by decide) hb.1, Int.le_trans hb.2 (by decide)⟩), by omega, ?_⟩
      exact Int.tmod_eq_emod_of_nonneg hb.1
def C_Dp_9 : FuncId → Option Ct := addC 22 ct_a2At C_Dp_8
theorem C_Dp_9_ok : COk Tryz.prog C_Dp_9 := addC_ok C_Dp_8_ok sat_a2At

def C_Dp : FuncId → Option Ct := C_Dp_9
theorem C_Dp_ok : COk Tryz.prog C_Dp := C_Dp_9_ok
end Go.Proofs.YtkeckmdmmbeaiaaGreatDoor
