/- Several texts of contracts in one: Dr Ds Dt Du QL QD QTa QP QEa Tt. Conditions: as each says. -/
import Derived.Test.YtkeckmdmmbeaiaaGreatDoorFj
import Derived.Test.YtkeckmdmmbeaiaaGreatDoorGaL
import Derived.Test.YtkeckmdmmbeaiaaGreatDoorGc
import Derived.Test.YtkeckmdmmbeaiaaGreatDoorRt
set_option linter.unusedSimpArgs false
set_option linter.unusedVariables false
namespace Go.Proofs.YtkeckmdmmbeaiaaGreatDoor
open Go.RowKit Sx
set_option maxRecDepth 100000
set_option maxHeartbeats 1000000
abbrev tSrc : Ty := .pair (.seq (.int .u8)) (.pair I64 (.int .u64))
abbrev Src := List Int × Int × Int
def srcB (s : Src) : Int := if s.2.1 < ((s.1 : List Int).length : Int) then (s.1 : List Int).getD s.2.1.toNat 0 else 0
def seedN (s : Src) : Int := IntKind.u64.wrap (IntKind.u64.wrap (IntKind.u64.wrap (s.2.2 * 6364136223846793005) + IntKind.u64.wrap (srcB s)) + 1442695040888963407)
def nextN (s : Src) : Src := (s.1, s.2.1 + 1, seedN s)
def nextV (s : Src) : Int := if s.2.1 + 1 ≤ ((s.1 : List Int).length : Int) then srcB s else seedN s / 1099511627776 % 256
/-- Bytes, a place not below 0 and at most n. -/
structure okS (s : Src) (n : Int) : Prop where
  lo : 0 ≤ s.2.1
  hi : s.2.1 ≤ n
  by8 : ∀ z ∈ (s.1 : List Int), 0 ≤ z ∧ z ≤ 255
theorem srcB_bd {s : Src} {n : Int} (h : okS s n) : 0 ≤ srcB s ∧ srcB s ≤ 255 := by
  unfold srcB
  split
  · rename_i hl
    have h0 := h.lo
    rw [getD_lt _ _ _ (by omega)]
    exact h.by8 _ (List.getElem_mem _)
  · omega
theorem u64w (z : Int) : 0 ≤ IntKind.u64.wrap z ∧ IntKind.u64.wrap z ≤ 18446744073709551615 := by
  simp only [IntKind.wrap, IntKind.bits, IntKind.signed]
  simp
  omega
theorem seedN_bd (s : Src) : 0 ≤ seedN s ∧ seedN s ≤ 18446744073709551615 := u64w _
theorem nextV_bd {s : Src} {n : Int} (h : okS s n) : 0 ≤ nextV s ∧ nextV s ≤ 255 := by
  have h1 := srcB_bd h
  have h2 := seedN_bd s
  unfold nextV
  split <;> omega
theorem nextN_ok {s : Src} {n : Int} (h : okS s n) : okS (nextN s) (n + 1) := ⟨by have := h.lo; show 0 ≤ s.2.1 + 1; omega, by have := h.hi; show s.2.1 + 1 ≤ n + 1; omega, h.by8⟩
theorem okS.mono {s : Src} {n m : Int} (h : okS s n) (hm : n ≤ m) : okS s m := ⟨h.lo, by have := h.hi; omega, h.by8⟩
theorem and255 (n : Int) (h : 0 ≤ n) : ((n.toNat &&& 255 : Nat) : Int) = n % 256 := by
  have := Nat.and_two_pow_sub_one_eq_mod n.toNat 8
  rw [show (255 : Nat) = 2 ^ 8 - 1 by decide, this]
  omega
def pickS (s : Src) (n : Int) : Int × Src :=
  if n ≤ 1 then (0, s) else if 200 < n then ((nextV s * 256 + nextV (nextN s)) % n, nextN (nextN s)) else (nextV s % n, nextN s)
theorem pickS_ok {s : Src} {m : Int} (h : okS s m) (n : Int) : okS (pickS s n).2 (m + 2) := by
  unfold pickS
  split
  · exact h.mono (by omega)
  · split
    · have := nextN_ok (nextN_ok h); exact this.mono (by omega)
    · exact (nextN_ok h).mono (by omega)
theorem pickS_bd {s : Src} {m : Int} (h : okS s m) (n : Int) : 0 ≤ (pickS s n).1 ∧ (1 ≤ n → (pickS s n).1 ≤ n - 1) ∧ (n ≤ 1 → (pickS s n).1 = 0) := by
  have h1 := nextV_bd h
  have h2 := nextV_bd (nextN_ok h)
  unfold pickS
  split
  · exact ⟨by simp, fun _ => by simp only; omega, fun _ => rfl⟩
  · rename_i hn
    have e1 := Int.emod_nonneg (nextV s * 256 + nextV (nextN s)) (b := n) (by omega)
    have e2 := Int.emod_lt_of_pos (nextV s * 256 + nextV (nextN s)) (b := n) (by omega)
    have e3 := Int.emod_nonneg (nextV s) (b := n) (by omega)
    have e4 := Int.emod_lt_of_pos (nextV s) (b := n) (by omega)
    split
    · exact ⟨e1, fun _ => by simp only; omega, fun h => absurd h hn⟩
    · exact ⟨e3, fun _ => by simp only; omega, fun h => absurd h hn⟩
def amongS (s : Src) (xs : List Int) : Int × Src := (xs.getD (pickS s xs.length).1.toNat 0, (pickS s xs.length).2)
theorem amongS_ok {s : Src} {m : Int} (h : okS s m) (xs : List Int) : okS (amongS s xs).2 (m + 2) := pickS_ok h _
theorem amongS_mem {s : Src} {m : Int} (h : okS s m) (xs : List Int) (hx : 1 ≤ (xs.length : Int)) : (amongS s xs).1 ∈ xs := by
  have hb := pickS_bd h (xs.length : Int)
  have hb1 := hb.2.1 hx
  show xs.getD _ 0 ∈ xs
  rw [getD_lt _ _ _ (by omega)]
  exact List.getElem_mem _
def ct_l00From : Ct := ctOfN [.v (.seq (.int .u8))] (fun _ => .tt) tSrc (fun ((code : List (Ty.int .u8).den), _) => (code, 0, 0))
set_option maxHeartbeats 1000000 in
theorem sat_l00From : Sat Tryz.prog 54 ct_l00From := by
  refine sat_typedN (C := C_Fj) (L := noL) (wr := false) mixedOk Tryz.func54 C_Fj_ok (loops0 (by kernel_rfl))  fun x hp => ?_
  obtain ⟨(code : List (Ty.int .u8).den), _⟩ := x
  clear hp
  have htree : exFuncN Tryz.prog C_Fj false noL Tryz.f54 (encA [.v (.seq (.int .u8))] (code, ())) = .leaf ⟨(Ty.int IntKind.u8).seq.pair ((Ty.int IntKind.i64).pair (Ty.int IntKind.u64)), (code, (0 : Int), (0 : Int))⟩ := by kernel_rfl
  refine (congrArg (Tree.ok _) htree).mpr ?_
  clear htree
  simp only [Tree.ok, tyd_inj, packAV, AV.same, AV.same.sameL, encV, encS, enc, inK, Nd.ok, List.headD_cons, List.cons_append, List.nil_append, List.append_nil, true_and, and_true, Bool.true_and, Bool.and_true]
def C_Dr_1 : FuncId → Option Ct := addC 54 ct_l00From C_Fj
theorem C_Dr_1_ok : COk Tryz.prog C_Dr_1 := addC_ok C_Fj_ok sat_l00From
def ct_next : Ct := ctOfB tSrc [] (fun ((code : List (Ty.int .u8).den), (a : Int), (sd : Int)) _ => .p (okS (code, a, sd) 1000000000)) (fun ((code : List (Ty.int .u8).den), (a : Int), (sd : Int)) _ => .int .i64 (nextV (code, a, sd))) (fun ((code : List (Ty.int .u8).den), (a : Int), (sd : Int)) _ => nextN (code, a, sd))
set_option maxHeartbeats 1000000 in
theorem sat_next : Sat Tryz.prog 147 ct_next := by
  refine sat_typedB (C := C_Dr_1) (L := noL) (wr := true) mixedOk Tryz.func147 C_Dr_1_ok (loops0 (by kernel_rfl)) (fun _ _ => by first | rfl | (simp [ownsOf, ownsOf.ownsL, enc, encV, encS])) fun bx x hp => ?_
  obtain ⟨(code : List (Ty.int .u8).den), (a : Int), (sd : Int)⟩ := bx
  obtain _ := x
  replace hp : okS (code, a, sd) 1000000000 := hp
  have htree : exFuncB Tryz.prog C_Dr_1 true noL Tryz.f147 (encA [] ()) ⟨tSrc, (code, a, sd)⟩ = .ite (decide (a < (↑code.length : Int))) (.need ((0 : Int) ≤ a ∧ a < (↑code.length : Int)) (.ite (decide (IntKind.i64.wrap (a + (1 : Int)) ≤ (↑code.length : Int))) (.leaf ([.int .i64 (IntKind.i64.wrap (getT (Ty.int IntKind.u8) code a))], ⟨(Ty.int IntKind.u8).seq.pair ((Ty.int IntKind.i64).pair (Ty.int IntKind.u64)), (code, IntKind.i64.wrap (a + (1 : Int)), IntKind.u64.wrap (IntKind.u64.wrap (IntKind.u64.wrap (sd * (6364136223846793005 : Int)) + IntKind.u64.wrap (IntKind.i64.wrap (getT (Ty.int IntKind.u8) code a))) + (1442695040888963407 : Int)))⟩)) (.need (((0 : Int) ≤ (40 : Int) ∧ (40 : Int) ≤ (63 : Int)) ∧ (IntKind.u64 = IntKind.i64 ∨ IntKind.u64 = IntKind.u64)) (.need (((0 : Int) ≤ IntKind.u64.wrap (IntKind.u64.wrap (IntKind.u64.wrap (sd * (6364136223846793005 : Int)) + IntKind.u64.wrap (IntKind.i64.wrap (getT (Ty.int IntKind.u8) code a))) + (1442695040888963407 : Int)) / (2 : Int) ^ Int.toNat (40 : Int) ∧ IntKind.u64.wrap (IntKind.u64.wrap (IntKind.u64.wrap (sd * (6364136223846793005 : Int)) + IntKind.u64.wrap (IntKind.i64.wrap (getT (Ty.int IntKind.u8) code a))) + (1442695040888963407 : Int)) / (2 : Int) ^ Int.toNat (40 : Int) ≤ (9223372036854775807 : Int)) ∧ ((0 : Int) ≤ (255 : Int) ∧ (255 : Int) ≤ (9223372036854775807 : Int)) ∧ (IntKind.u64 = IntKind.i64 ∨ IntKind.u64 = IntKind.u64)) (.leaf ([.int .i64 (IntKind.i64.wrap (↑((IntKind.u64.wrap (IntKind.u64.wrap (IntKind.u64.wrap (sd * (6364136223846793005 : Int)) + IntKind.u64.wrap (IntKind.i64.wrap (getT (Ty.int IntKind.u8) code a))) + (1442695040888963407 : Int)) / (2 : Int) ^ Int.toNat (40 : Int)).toNat &&& Int.toNat (255 : Int)) : Int))], ⟨(Ty.int IntKind.u8).seq.pair ((Ty.int IntKind.i64).pair (Ty.int IntKind.u64)), (code, IntKind.i64.wrap (a + (1 : Int)), IntKind.u64.wrap (IntKind.u64.wrap (IntKind.u64.wrap (sd * (6364136223846793005 : Int)) + IntKind.u64.wrap (IntKind.i64.wrap (getT (Ty.int IntKind.u8) code a))) + (1442695040888963407 : Int)))⟩)))))) (.ite (decide (IntKind.i64.wrap (a + (1 : Int)) ≤ (↑code.length : Int))) (.leaf ([.int .i64 ((0 : Int))], ⟨(Ty.int IntKind.u8).seq.pair ((Ty.int IntKind.i64).pair (Ty.int IntKind.u64)), (code, IntKind.i64.wrap (a + (1 : Int)), IntKind.u64.wrap (IntKind.u64.wrap (IntKind.u64.wrap (sd * (6364136223846793005 : Int)) + IntKind.u64.wrap (0 : Int)) + (1442695040888963407 : Int)))⟩)) (.need (((0 : Int) ≤ (40 : Int) ∧ (40 : Int) ≤ (63 : Int)) ∧ (IntKind.u64 = IntKind.i64 ∨ IntKind.u64 = IntKind.u64)) (.need (((0 : Int) ≤ IntKind.u64.wrap (IntKind.u64.wrap (IntKind.u64.wrap (sd * (6364136223846793005 : Int)) + IntKind.u64.wrap (0 : Int)) + (1442695040888963407 : Int)) / (2 : Int) ^ Int.toNat (40 : Int) ∧ IntKind.u64.wrap (IntKind.u64.wrap (IntKind.u64.wrap (sd * (6364136223846793005 : Int)) + IntKind.u64.wrap (0 : Int)) + (1442695040888963407 : Int)) / (2 : Int) ^ Int.toNat (40 : Int) ≤ (9223372036854775807 : Int)) ∧ ((0 : Int) ≤ (255 : Int) ∧ (255 : Int) ≤ (9223372036854775807 : Int)) ∧ (IntKind.u64 = IntKind.i64 ∨ IntKind.u64 = IntKind.u64)) (.leaf ([.int .i64 (IntKind.i64.wrap (↑((IntKind.u64.wrap (IntKind.u64.wrap (IntKind.u64.wrap (sd * (6364136223846793005 : Int)) + IntKind.u64.wrap (0 : Int)) + (1442695040888963407 : Int)) / (2 : Int) ^ Int.toNat (40 : Int)).toNat &&& Int.toNat (255 : Int)) : Int))], ⟨(Ty.int IntKind.u8).seq.pair ((Ty.int IntKind.i64).pair (Ty.int IntKind.u64)), (code, IntKind.i64.wrap (a + (1 : Int)), IntKind.u64.wrap (IntKind.u64.wrap (IntKind.u64.wrap (sd * (6364136223846793005 : Int)) + IntKind.u64.wrap (0 : Int)) + (1442695040888963407 : Int)))⟩))))) := by kernel_rfl
  refine (congrArg (Tree.ok _) htree).mpr ?_
  clear htree
  have h0 : 0 ≤ a := hp.lo
  have h1 : a ≤ 1000000000 := hp.hi
  have hb := srcB_bd hp
  have hs := seedN_bd (code, a, sd)
  have e1 : IntKind.i64.wrap (a + 1) = a + 1 := wrap_in (by simp only [inK]; omega)
  have hV : nextV (code, a, sd) = if a + 1 ≤ (code.length : Int) then srcB (code, a, sd) else seedN (code, a, sd) / 1099511627776 % 256 := rfl
  have hN : nextN (code, a, sd) = (code, a + 1, seedN (code, a, sd)) := rfl
  have hB : srcB (code, a, sd) = if a < (code.length : Int) then (code : List Int).getD a.toNat 0 else 0 := rfl
  have hS : seedN (code, a, sd) = IntKind.u64.wrap (IntKind.u64.wrap (IntKind.u64.wrap (sd * 6364136223846793005) + IntKind.u64.wrap (srcB (code, a, sd))) + 1442695040888963407) := rfl
  have hg : getT (Ty.int .u8) code a = (code : List Int).getD a.toNat 0 := rfl
  simp only [Tree.ok, tyd_inj, packAV, AV.same, AV.same.sameL, encV, encS, enc, inK, Nd.ok, List.headD_cons, List.cons_append, List.nil_append, List.append_nil, true_and, and_true, Bool.true_and, Bool.and_true, e1, hV, hN, hg]
  rw [hS] at hs ⊢
  by_cases ha : a < (code.length : Int)
  · rw [if_pos ha] at hB
    have hw : IntKind.i64.wrap ((code : List Int).getD a.toNat 0) = srcB (code, a, sd) := by rw [← hB]; exact wrap_in (by simp only [inK]; omega)
    simp only [hw]
    generalize IntKind.u64.wrap (IntKind.u64.wrap (IntKind.u64.wrap (sd * 6364136223846793005) + IntKind.u64.wrap (srcB (code, a, sd))) + 1442695040888963407) = S at *
    have h40 : (2 : Int) ^ Int.toNat 40 = 1099511627776 := by decide
    have h255 : Int.toNat 255 = 255 := rfl
    have ha5 := and255 (S / 1099511627776) (by omega)
    have hw2 : IntKind.i64.wrap (S / 1099511627776 % 256) = S / 1099511627776 % 256 := wrap_in (by simp only [inK]; omega)
    simp only [h40, h255, ha5, hw2, decide_eq_true_eq, decide_eq_false_iff_not]
    repeat' first | apply And.intro | intro _
    all_goals first | omega | trivial | (rw [if_pos ‹_›]; done) | (rw [if_neg ‹_›]; done) | (simp_all; done) | (simp_all; omega)
  · rw [if_neg ha] at hB
    rw [hB] at hs ⊢
    generalize IntKind.u64.wrap (IntKind.u64.wrap (IntKind.u64.wrap (sd * 6364136223846793005) + IntKind.u64.wrap 0) + 1442695040888963407) = S at *
    have h40 : (2 : Int) ^ Int.toNat 40 = 1099511627776 := by decide
    have h255 : Int.toNat 255 = 255 := rfl
    have ha5 := and255 (S / 1099511627776) (by omega)
    have hw2 : IntKind.i64.wrap (S / 1099511627776 % 256) = S / 1099511627776 % 256 := wrap_in (by simp only [inK]; omega)
    simp only [h40, h255, ha5, hw2, decide_eq_true_eq, decide_eq_false_iff_not]
    repeat' first | apply And.intro | intro _
    all_goals first | omega | trivial | (rw [if_pos ‹_›]; done) | (rw [if_neg ‹_›]; done) | (simp_all; done) | (simp_all; omega)
def C_Dr_2 : FuncId → Option Ct := addC 147 ct_next C_Dr_1
theorem C_Dr_2_ok : COk Tryz.prog C_Dr_2 := addC_ok C_Dr_1_ok sat_next
def ct_pick : Ct := ctOfB tSrc [.v (.int .i64)] (fun ((code : List (Ty.int .u8).den), (a : Int), (sd : Int)) ((n : Int), _) => .p (okS (code, a, sd) 900000000 ∧ n ≤ 1000000)) (fun ((code : List (Ty.int .u8).den), (a : Int), (sd : Int)) ((n : Int), _) => .int .i64 (pickS (code, a, sd) n).1) (fun ((code : List (Ty.int .u8).den), (a : Int), (sd : Int)) ((n : Int), _) => (pickS (code, a, sd) n).2)
set_option maxHeartbeats 1000000 in
theorem sat_pick : Sat Tryz.prog 107 ct_pick := by
  refine sat_typedB (C := C_Dr_2) (L := noL) (wr := false) mixedOk Tryz.func107 C_Dr_2_ok (loops0 (by kernel_rfl)) (fun _ _ => by first | rfl | (simp [ownsOf, ownsOf.ownsL, enc, encV, encS])) fun bx x hp => ?_
  obtain ⟨(code : List (Ty.int .u8).den), (a : Int), (sd : Int)⟩ := bx
  obtain ⟨(n : Int), _⟩ := x
  replace hp : okS (code, a, sd) 900000000 ∧ n ≤ 1000000 := hp
  have htree : exFuncB Tryz.prog C_Dr_2 false noL Tryz.f107 (encA [.v (.int .i64)] (n, ())) ⟨tSrc, (code, a, sd)⟩ = .ite (decide (n ≤ (1 : Int))) (.leaf ([.int .i64 ((0 : Int))], ⟨(Ty.int IntKind.u8).seq.pair ((Ty.int IntKind.i64).pair (Ty.int IntKind.u64)), (code, a, sd)⟩)) (.need (okS (code, a, sd) (1000000000 : Int)) (.ite (decide ((200 : Int) < n)) (.need (inK IntKind.i64 (nextV (code, a, sd) * (256 : Int))) (.need (okS ((nextN (code, a, sd)).fst, (nextN (code, a, sd)).snd.fst, (nextN (code, a, sd)).snd.snd) (1000000000 : Int)) (.need (inK IntKind.i64 (nextV (code, a, sd) * (256 : Int) + nextV ((nextN (code, a, sd)).fst, (nextN (code, a, sd)).snd.fst, (nextN (code, a, sd)).snd.snd))) (.need (n ≠ (0 : Int)) (.leaf ([.int .i64 ((nextV (code, a, sd) * (256 : Int) + nextV ((nextN (code, a, sd)).fst, (nextN (code, a, sd)).snd.fst, (nextN (code, a, sd)).snd.snd)).tmod n)], ⟨(Ty.int IntKind.u8).seq.pair ((Ty.int IntKind.i64).pair (Ty.int IntKind.u64)), ((nextN ((nextN (code, a, sd)).fst, (nextN (code, a, sd)).snd.fst, (nextN (code, a, sd)).snd.snd)).fst, (nextN ((nextN (code, a, sd)).fst, (nextN (code, a, sd)).snd.fst, (nextN (code, a, sd)).snd.snd)).snd.fst, (nextN ((nextN (code, a, sd)).fst, (nextN (code, a, sd)).snd.fst, (nextN (code, a, sd)).snd.snd)).snd.snd)⟩)))))) (.need (n ≠ (0 : Int)) (.leaf ([.int .i64 ((nextV (code, a, sd)).tmod n)], ⟨(Ty.int IntKind.u8).seq.pair ((Ty.int IntKind.i64).pair (Ty.int IntKind.u64)), ((nextN (code, a, sd)).fst, (nextN (code, a, sd)).snd.fst, (nextN (code, a, sd)).snd.snd)⟩))))) := by kernel_rfl
  refine (congrArg (Tree.ok _) htree).mpr ?_
  clear htree
  have h1 := hp.1.mono (show (900000000 : Int) ≤ 1000000000 by omega)
  have h2 := (nextN_ok hp.1).mono (show (900000000 : Int) + 1 ≤ 1000000000 by omega)
  have b1 := nextV_bd h1
  have b2 := nextV_bd h2
  have heta : ((nextN (code, a, sd)).1, (nextN (code, a, sd)).2.1, (nextN (code, a, sd)).2.2) = nextN (code, a, sd) := rfl
  have hP : pickS (code, a, sd) n = if n ≤ 1 then (0, (code, a, sd)) else if 200 < n then ((nextV (code, a, sd) * 256 + nextV (nextN (code, a, sd))) % n, nextN (nextN (code, a, sd))) else (nextV (code, a, sd) % n, nextN (code, a, sd)) := rfl
  simp only [Tree.ok, tyd_inj, packAV, AV.same, AV.same.sameL, encV, encS, enc, inK, Nd.ok, List.headD_cons, List.cons_append, List.nil_append, List.append_nil, true_and, and_true, Bool.true_and, Bool.and_true, heta, decide_eq_true_eq, decide_eq_false_iff_not] at *
  rw [hP]
  clear hP
  generalize nextV (nextN (code, a, sd)) = v2 at *
  generalize nextN (nextN (code, a, sd)) = s2 at *
  generalize nextV (code, a, sd) = v1 at *
  generalize nextN (code, a, sd) = s1 at *
  by_cases c1 : n ≤ 1
  · simp only [if_pos c1]
    exact ⟨fun _ => ⟨trivial, trivial⟩, fun h => absurd c1 h⟩
  · simp only [if_neg c1]
    refine ⟨fun h => absurd h c1, fun _ => ⟨h1, ?_⟩⟩
    by_cases c2 : 200 < n
    · simp only [if_pos c2]
      refine ⟨fun _ => ⟨by omega, h2, by omega, by omega, Int.tmod_eq_emod_of_nonneg (by omega), trivial⟩, fun h => absurd c2 h⟩
    · simp only [if_neg c2]
      exact ⟨fun h => absurd h c2, fun _ => ⟨by omega, Int.tmod_eq_emod_of_nonneg (by omega), trivial⟩⟩
def C_Dr_3 : FuncId → Option Ct := addC 107 ct_pick C_Dr_2
theorem C_Dr_3_ok : COk Tryz.prog C_Dr_3 := addC_ok C_Dr_2_ok sat_pick
def ct_one : Ct := ctOfB tSrc [.v (.int .i64)] (fun ((code : List (Ty.int .u8).den), (a : Int), (sd : Int)) ((n : Int), _) => .p (okS (code, a, sd) 900000000 ∧ n ≤ 1000000)) (fun ((code : List (Ty.int .u8).den), (a : Int), (sd : Int)) ((n : Int), _) => .bool (decide ((pickS (code, a, sd) n).1 = 0))) (fun ((code : List (Ty.int .u8).den), (a : Int), (sd : Int)) ((n : Int), _) => (pickS (code, a, sd) n).2)
set_option maxHeartbeats 1000000 in
theorem sat_one : Sat Tryz.prog 123 ct_one := by
  refine sat_typedB (C := C_Dr_3) (L := noL) (wr := false) mixedOk Tryz.func123 C_Dr_3_ok (loops0 (by kernel_rfl)) (fun _ _ => by first | rfl | (simp [ownsOf, ownsOf.ownsL, enc, encV, encS])) fun bx x hp => ?_
  obtain ⟨(code : List (Ty.int .u8).den), (a : Int), (sd : Int)⟩ := bx
  obtain ⟨(n : Int), _⟩ := x
  replace hp : okS (code, a, sd) 900000000 ∧ n ≤ 1000000 := hp
  have htree : exFuncB Tryz.prog C_Dr_3 false noL Tryz.f123 (encA [.v (.int .i64)] (n, ())) ⟨tSrc, (code, a, sd)⟩ = .need (okS (code, a, sd) (900000000 : Int) ∧ n ≤ (1000000 : Int)) (.leaf ([.bool ((pickS (code, a, sd) n).fst == (0 : Int))], ⟨(Ty.int IntKind.u8).seq.pair ((Ty.int IntKind.i64).pair (Ty.int IntKind.u64)), ((pickS (code, a, sd) n).snd.fst, (pickS (code, a, sd) n).snd.snd.fst, (pickS (code, a, sd) n).snd.snd.snd)⟩)) := by kernel_rfl
  refine (congrArg (Tree.ok _) htree).mpr ?_
  clear htree
  have heta : ((pickS (code, a, sd) n).2.1, (pickS (code, a, sd) n).2.2.1, (pickS (code, a, sd) n).2.2.2) = (pickS (code, a, sd) n).2 := rfl
  simp only [Tree.ok, tyd_inj, packAV, AV.same, AV.same.sameL, encV, encS, enc, inK, Nd.ok, List.headD_cons, List.cons_append, List.nil_append, List.append_nil, true_and, and_true, Bool.true_and, Bool.and_true, heta]
  exact ⟨hp, rfl⟩
def C_Dr_4 : FuncId → Option Ct := addC 123 ct_one C_Dr_3
theorem C_Dr_4_ok : COk Tryz.prog C_Dr_4 := addC_ok C_Dr_3_ok sat_one
def ct_among : Ct := ctOfB tSrc [.v (.seq I64)] (fun ((code : List (Ty.int .u8).den), (a : Int), (sd : Int)) ((xs : List Int), _) => .p (okS (code, a, sd) 900000000 ∧ 1 ≤ (xs.length : Int) ∧ (xs.length : Int) ≤ 1000000)) (fun ((code : List (Ty.int .u8).den), (a : Int), (sd : Int)) ((xs : List Int), _) => .int .i64 (amongS (code, a, sd) xs).1) (fun ((code : List (Ty.int .u8).den), (a : Int), (sd : Int)) ((xs : List Int), _) => (amongS (code, a, sd) xs).2)
set_option maxHeartbeats 1000000 in
theorem sat_among : Sat Tryz.prog 108 ct_among := by
  refine sat_typedB (C := C_Dr_4) (L := noL) (wr := false) mixedOk Tryz.func108 C_Dr_4_ok (loops0 (by kernel_rfl)) (fun _ _ => by first | rfl | (simp [ownsOf, ownsOf.ownsL, enc, encV, encS])) fun bx x hp => ?_
  obtain ⟨(code : List (Ty.int .u8).den), (a : Int), (sd : Int)⟩ := bx
  obtain ⟨(xs : List Int), _⟩ := x
  replace hp : okS (code, a, sd) 900000000 ∧ 1 ≤ (xs.length : Int) ∧ (xs.length : Int) ≤ 1000000 := hp
  have htree : exFuncB Tryz.prog C_Dr_4 false noL Tryz.f108 (encA [.v (.seq I64)] (xs, ())) ⟨tSrc, (code, a, sd)⟩ = .need (okS (code, a, sd) (900000000 : Int) ∧ (↑xs.length : Int) ≤ (1000000 : Int)) (.need ((0 : Int) ≤ (pickS (code, a, sd) (↑xs.length : Int)).fst ∧ (pickS (code, a, sd) (↑xs.length : Int)).fst < (↑xs.length : Int)) (.leaf ([.int .i64 (getT I64 xs (pickS (code, a, sd) (↑xs.length : Int)).fst)], ⟨(Ty.int IntKind.u8).seq.pair ((Ty.int IntKind.i64).pair (Ty.int IntKind.u64)), ((pickS (code, a, sd) (↑xs.length : Int)).snd.fst, (pickS (code, a, sd) (↑xs.length : Int)).snd.snd.fst, (pickS (code, a, sd) (↑xs.length : Int)).snd.snd.snd)⟩))) := by kernel_rfl
  refine (congrArg (Tree.ok _) htree).mpr ?_
  clear htree
  have heta : ((pickS (code, a, sd) xs.length).2.1, (pickS (code, a, sd) xs.length).2.2.1, (pickS (code, a, sd) xs.length).2.2.2) = (pickS (code, a, sd) xs.length).2 := rfl
  simp only [Tree.ok, tyd_inj, packAV, AV.same, AV.same.sameL, encV, encS, enc, inK, Nd.ok, List.headD_cons, List.cons_append, List.nil_append, List.append_nil, true_and, and_true, Bool.true_and, Bool.and_true, heta]
  have hb := pickS_bd (hp.1.mono (show (900000000 : Int) ≤ 900000000 by omega)) (xs.length : Int)
  have hb1 := hb.2.1 hp.2.1
  exact ⟨⟨hp.1, hp.2.2⟩, ⟨hb.1, by omega⟩, rfl, rfl⟩
def C_Dr_5 : FuncId → Option Ct := addC 108 ct_among C_Dr_4
theorem C_Dr_5_ok : COk Tryz.prog C_Dr_5 := addC_ok C_Dr_4_ok sat_among

def C_Dr : FuncId → Option Ct := C_Dr_5
theorem C_Dr_ok : COk Tryz.prog C_Dr := C_Dr_5_ok
end Go.Proofs.YtkeckmdmmbeaiaaGreatDoor
namespace Go.Proofs.YtkeckmdmmbeaiaaGreatDoor
open Go.RowKit Sx
set_option maxRecDepth 100000
set_option maxHeartbeats 1000000
theorem mkF_small {n d : Int} (hn : 0 ≤ n ∧ n ≤ 1000000000) (hd : 1 ≤ d ∧ d ≤ 1000000) :
    (mkF n d).2 = 0 ∧ 0 ≤ (mkF n d).1.1 ∧ okF (mkF n d).1.1 (mkF n d).1.2 = true ∧ ∃ g : Int, 1 ≤ g ∧ n = g * (mkF n d).1.1 ∧ d = g * (mkF n d).1.2 := by
  have g1 := gcd_pos (n := n) (d := d) (by omega)
  have b1 := div_bd (n.natAbs : Int) _ (by omega) g1
  have b2 := div_bd (d.natAbs : Int) _ (by omega) g1
  have hm := mkF_pos n d (by omega)
  have e1 : ((n.natAbs : Int)) = n := by omega
  have e2 : ((d.natAbs : Int)) = d := by omega
  have d1 : (Int.gcd n d : Int) ∣ n := Int.gcd_dvd_left ..
  have d2 : (Int.gcd n d : Int) ∣ d := Int.gcd_dvd_right ..
  have m1 := Int.mul_ediv_cancel' d1
  have m2 := Int.mul_ediv_cancel' d2
  rw [e1] at b1
  rw [e2] at b2
  rw [e1, e2, if_neg (by omega), show (decide (n < 0) != decide (d < 0)) = false by
    rw [decide_eq_false (by omega), decide_eq_false (by omega)]; rfl] at hm
  have hz : (mkF n d).2 = 0 := by rw [hm]
  refine ⟨hz, ?_, mkF_ok (by omega) hz, (Int.gcd n d : Int), g1, ?_, ?_⟩
  · rw [hm]; exact b1.1
  · rw [hm]; exact m1.symm
  · rw [hm]; exact m2.symm
def beatL : List Int := [1, 1, 2, 2, 3, 4, 4, 6, 8]
def beatS (s : Src) (most : Int) : (Int × Int) × Src :=
  ((mkF (pickS (amongS s beatL).2 (most * (amongS s beatL).1 + 1)).1 (amongS s beatL).1).1, (pickS (amongS s beatL).2 (most * (amongS s beatL).1 + 1)).2)
theorem beat_den {s : Src} {m : Int} (h : okS s m) : 1 ≤ (amongS s beatL).1 ∧ (amongS s beatL).1 ≤ 8 := by
  have := amongS_mem h beatL (by decide)
  generalize (amongS s beatL).1 = d at *
  simp only [beatL, List.mem_cons, List.not_mem_nil, or_false] at this
  omega
theorem beatS_ok {s : Src} {m : Int} (h : okS s m) (most : Int) : okS (beatS s most).2 (m + 4) := (pickS_ok (amongS_ok h beatL) _).mono (by omega)
theorem beatS_bd {s : Src} {m : Int} (h : okS s m) {most : Int} (hm : 0 ≤ most ∧ most ≤ 1000) :
    okF (beatS s most).1.1 (beatS s most).1.2 = true ∧ 0 ≤ (beatS s most).1.1 ∧ (beatS s most).1.1 ≤ most * (beatS s most).1.2 ∧ (beatS s most).1.2 ≤ 8 := by
  have hd := beat_den h
  have hq := amongS_ok h beatL
  have hp := pickS_bd hq (most * (amongS s beatL).1 + 1)
  show okF (mkF _ _).1.1 (mkF _ _).1.2 = true ∧ 0 ≤ (mkF _ _).1.1 ∧ (mkF _ _).1.1 ≤ most * (mkF _ _).1.2 ∧ (mkF _ _).1.2 ≤ 8
  generalize (pickS (amongS s beatL).2 (most * (amongS s beatL).1 + 1)).1 = n at *
  generalize (amongS s beatL).1 = d at *
  have h1 : 0 ≤ most * d := Int.mul_nonneg hm.1 (by omega)
  have h2 : most * d ≤ 1000 * d := Int.mul_le_mul_of_nonneg_right hm.2 (by omega)
  have hn := hp.2.1 (by omega)
  obtain ⟨z, p0, ho, g, hg, e1, e2⟩ := mkF_small (n := n) (d := d) ⟨hp.1, by omega⟩ ⟨by omega, by omega⟩
  have hob := okF_bd ho
  generalize (mkF n d).1.1 = a at *
  generalize (mkF n d).1.2 = b at *
  refine ⟨ho, p0, ?_, ?_⟩
  · have : g * a ≤ g * (most * b) := by rw [← e1, Int.mul_left_comm, ← e2]; omega
    exact Int.le_of_mul_le_mul_left this (by omega)
  · have : 1 * b ≤ g * b := Int.mul_le_mul_of_nonneg_right hg (by omega)
    omega
def ct_l02Beat : Ct := ctOfB tSrc [.v (.int .i64)] (fun ((code : List (Ty.int .u8).den), (a : Int), (sd : Int)) ((most : Int), _) => .p (okS (code, a, sd) 800000000 ∧ 0 ≤ most ∧ most ≤ 1000)) (fun ((code : List (Ty.int .u8).den), (a : Int), (sd : Int)) ((most : Int), _) => .agg (enc tFrac (beatS (code, a, sd) most).1)) (fun ((code : List (Ty.int .u8).den), (a : Int), (sd : Int)) ((most : Int), _) => (beatS (code, a, sd) most).2)
set_option maxHeartbeats 1000000 in
theorem sat_l02Beat : Sat Tryz.prog 56 ct_l02Beat := by
  refine sat_typedB (C := C_Dr) (L := noL) (wr := false) mixedOk Tryz.func56 C_Dr_ok (loops0 (by kernel_rfl)) (fun _ _ => by first | rfl | (simp [ownsOf, ownsOf.ownsL, enc, encV, encS])) fun bx x hp => ?_
  obtain ⟨(code : List (Ty.int .u8).den), (a : Int), (sd : Int)⟩ := bx
  obtain ⟨(most : Int), _⟩ := x
  replace hp : okS (code, a, sd) 800000000 ∧ 0 ≤ most ∧ most ≤ 1000 := hp
  have htree : exFuncB Tryz.prog C_Dr false noL Tryz.f56 (encA [.v (.int .i64)] (most, ())) ⟨tSrc, (code, a, sd)⟩ = .need (okS (code, a, sd) (900000000 : Int) ∧ (1 : Int) ≤ (↑[(1 : Int), (1 : Int), (2 : Int), (2 : Int), (3 : Int), (4 : Int), (4 : Int), (6 : Int), (8 : Int)].length : Int) ∧ (↑[(1 : Int), (1 : Int), (2 : Int), (2 : Int), (3 : Int), (4 : Int), (4 : Int), (6 : Int), (8 : Int)].length : Int) ≤ (1000000 : Int)) (.need (inK IntKind.i64 (most * (amongS (code, a, sd) [(1 : Int), (1 : Int), (2 : Int), (2 : Int), (3 : Int), (4 : Int), (4 : Int), (6 : Int), (8 : Int)]).fst)) (.need (inK IntKind.i64 (most * (amongS (code, a, sd) [(1 : Int), (1 : Int), (2 : Int), (2 : Int), (3 : Int), (4 : Int), (4 : Int), (6 : Int), (8 : Int)]).fst + (1 : Int))) (.need (okS ((amongS (code, a, sd) [(1 : Int), (1 : Int), (2 : Int), (2 : Int), (3 : Int), (4 : Int), (4 : Int), (6 : Int), (8 : Int)]).snd.fst, (amongS (code, a, sd) [(1 : Int), (1 : Int), (2 : Int), (2 : Int), (3 : Int), (4 : Int), (4 : Int), (6 : Int), (8 : Int)]).snd.snd.fst, (amongS (code, a, sd) [(1 : Int), (1 : Int), (2 : Int), (2 : Int), (3 : Int), (4 : Int), (4 : Int), (6 : Int), (8 : Int)]).snd.snd.snd) (900000000 : Int) ∧ most * (amongS (code, a, sd) [(1 : Int), (1 : Int), (2 : Int), (2 : Int), (3 : Int), (4 : Int), (4 : Int), (6 : Int), (8 : Int)]).fst + (1 : Int) ≤ (1000000 : Int)) (.need (((-9223372036854775808 : Int) ≤ (pickS ((amongS (code, a, sd) [(1 : Int), (1 : Int), (2 : Int), (2 : Int), (3 : Int), (4 : Int), (4 : Int), (6 : Int), (8 : Int)]).snd.fst, (amongS (code, a, sd) [(1 : Int), (1 : Int), (2 : Int), (2 : Int), (3 : Int), (4 : Int), (4 : Int), (6 : Int), (8 : Int)]).snd.snd.fst, (amongS (code, a, sd) [(1 : Int), (1 : Int), (2 : Int), (2 : Int), (3 : Int), (4 : Int), (4 : Int), (6 : Int), (8 : Int)]).snd.snd.snd) (most * (amongS (code, a, sd) [(1 : Int), (1 : Int), (2 : Int), (2 : Int), (3 : Int), (4 : Int), (4 : Int), (6 : Int), (8 : Int)]).fst + (1 : Int))).fst ∧ (pickS ((amongS (code, a, sd) [(1 : Int), (1 : Int), (2 : Int), (2 : Int), (3 : Int), (4 : Int), (4 : Int), (6 : Int), (8 : Int)]).snd.fst, (amongS (code, a, sd) [(1 : Int), (1 : Int), (2 : Int), (2 : Int), (3 : Int), (4 : Int), (4 : Int), (6 : Int), (8 : Int)]).snd.snd.fst, (amongS (code, a, sd) [(1 : Int), (1 : Int), (2 : Int), (2 : Int), (3 : Int), (4 : Int), (4 : Int), (6 : Int), (8 : Int)]).snd.snd.snd) (most * (amongS (code, a, sd) [(1 : Int), (1 : Int), (2 : Int), (2 : Int), (3 : Int), (4 : Int), (4 : Int), (6 : Int), (8 : Int)]).fst + (1 : Int))).fst ≤ (9223372036854775807 : Int)) ∧ (-9223372036854775808 : Int) ≤ (amongS (code, a, sd) [(1 : Int), (1 : Int), (2 : Int), (2 : Int), (3 : Int), (4 : Int), (4 : Int), (6 : Int), (8 : Int)]).fst ∧ (amongS (code, a, sd) [(1 : Int), (1 : Int), (2 : Int), (2 : Int), (3 : Int), (4 : Int), (4 : Int), (6 : Int), (8 : Int)]).fst ≤ (9223372036854775807 : Int)) (.leaf ([.agg [.int .i64 ((mkF (pickS ((amongS (code, a, sd) [(1 : Int), (1 : Int), (2 : Int), (2 : Int), (3 : Int), (4 : Int), (4 : Int), (6 : Int), (8 : Int)]).snd.fst, (amongS (code, a, sd) [(1 : Int), (1 : Int), (2 : Int), (2 : Int), (3 : Int), (4 : Int), (4 : Int), (6 : Int), (8 : Int)]).snd.snd.fst, (amongS (code, a, sd) [(1 : Int), (1 : Int), (2 : Int), (2 : Int), (3 : Int), (4 : Int), (4 : Int), (6 : Int), (8 : Int)]).snd.snd.snd) (most * (amongS (code, a, sd) [(1 : Int), (1 : Int), (2 : Int), (2 : Int), (3 : Int), (4 : Int), (4 : Int), (6 : Int), (8 : Int)]).fst + (1 : Int))).fst (amongS (code, a, sd) [(1 : Int), (1 : Int), (2 : Int), (2 : Int), (3 : Int), (4 : Int), (4 : Int), (6 : Int), (8 : Int)]).fst).fst.fst), .int .i64 ((mkF (pickS ((amongS (code, a, sd) [(1 : Int), (1 : Int), (2 : Int), (2 : Int), (3 : Int), (4 : Int), (4 : Int), (6 : Int), (8 : Int)]).snd.fst, (amongS (code, a, sd) [(1 : Int), (1 : Int), (2 : Int), (2 : Int), (3 : Int), (4 : Int), (4 : Int), (6 : Int), (8 : Int)]).snd.snd.fst, (amongS (code, a, sd) [(1 : Int), (1 : Int), (2 : Int), (2 : Int), (3 : Int), (4 : Int), (4 : Int), (6 : Int), (8 : Int)]).snd.snd.snd) (most * (amongS (code, a, sd) [(1 : Int), (1 : Int), (2 : Int), (2 : Int), (3 : Int), (4 : Int), (4 : Int), (6 : Int), (8 : Int)]).fst + (1 : Int))).fst (amongS (code, a, sd) [(1 : Int), (1 : Int), (2 : Int), (2 : Int), (3 : Int), (4 : Int), (4 : Int), (6 : Int), (8 : Int)]).fst).fst.snd)]], ⟨(Ty.int IntKind.u8).seq.pair ((Ty.int IntKind.i64).pair (Ty.int IntKind.u64)), ((pickS ((amongS (code, a, sd) [(1 : Int), (1 : Int), (2 : Int), (2 : Int), (3 : Int), (4 : Int), (4 : Int), (6 : Int), (8 : Int)]).snd.fst, (amongS (code, a, sd) [(1 : Int), (1 : Int), (2 : Int), (2 : Int), (3 : Int), (4 : Int), (4 : Int), (6 : Int), (8 : Int)]).snd.snd.fst, (amongS (code, a, sd) [(1 : Int), (1 : Int), (2 : Int), (2 : Int), (3 : Int), (4 : Int), (4 : Int), (6 : Int), (8 : Int)]).snd.snd.snd) (most * (amongS (code, a, sd) [(1 : Int), (1 : Int), (2 : Int), (2 : Int), (3 : Int), (4 : Int), (4 : Int), (6 : Int), (8 : Int)]).fst + (1 : Int))).snd.fst, (pickS ((amongS (code, a, sd) [(1 : Int), (1 : Int), (2 : Int), (2 : Int), (3 : Int), (4 : Int), (4 : Int), (6 : Int), (8 : Int)]).snd.fst, (amongS (code, a, sd) [(1 : Int), (1 : Int), (2 : Int), (2 : Int), (3 : Int), (4 : Int), (4 : Int), (6 : Int), (8 : Int)]).snd.snd.fst, (amongS (code, a, sd) [(1 : Int), (1 : Int), (2 : Int), (2 : Int), (3 : Int), (4 : Int), (4 : Int), (6 : Int), (8 : Int)]).snd.snd.snd) (most * (amongS (code, a, sd) [(1 : Int), (1 : Int), (2 : Int), (2 : Int), (3 : Int), (4 : Int), (4 : Int), (6 : Int), (8 : Int)]).fst + (1 : Int))).snd.snd.fst, (pickS ((amongS (code, a, sd) [(1 : Int), (1 : Int), (2 : Int), (2 : Int), (3 : Int), (4 : Int), (4 : Int), (6 : Int), (8 : Int)]).snd.fst, (amongS (code, a, sd) [(1 : Int), (1 : Int), (2 : Int), (2 : Int), (3 : Int), (4 : Int), (4 : Int), (6 : Int), (8 : Int)]).snd.snd.fst, (amongS (code, a, sd) [(1 : Int), (1 : Int), (2 : Int), (2 : Int), (3 : Int), (4 : Int), (4 : Int), (6 : Int), (8 : Int)]).snd.snd.snd) (most * (amongS (code, a, sd) [(1 : Int), (1 : Int), (2 : Int), (2 : Int), (3 : Int), (4 : Int), (4 : Int), (6 : Int), (8 : Int)]).fst + (1 : Int))).snd.snd.snd)⟩)))))) := by kernel_rfl
  refine (congrArg (Tree.ok _) htree).mpr ?_
  clear htree
  have ea : amongS (code, a, sd) [1, 1, 2, 2, 3, 4, 4, 6, 8] = amongS (code, a, sd) beatL := rfl
  have el : ([1, 1, 2, 2, 3, 4, 4, 6, 8] : List Int).length = 9 := rfl
  have eta : ∀ s : Src, (s.1, s.2.1, s.2.2) = s := fun _ => rfl
  have hd := beat_den hp.1
  have hq := (amongS_ok hp.1 beatL).mono (show (800000000 : Int) + 2 ≤ 900000000 by omega)
  have hb := pickS_bd hq (most * (amongS (code, a, sd) beatL).1 + 1)
  have eB : beatS (code, a, sd) most = ((mkF (pickS (amongS (code, a, sd) beatL).2 (most * (amongS (code, a, sd) beatL).1 + 1)).1 (amongS (code, a, sd) beatL).1).1, (pickS (amongS (code, a, sd) beatL).2 (most * (amongS (code, a, sd) beatL).1 + 1)).2) := rfl
  simp only [Tree.ok, tyd_inj, packAV, AV.same, AV.same.sameL, encV, encS, enc, inK, Nd.ok, List.headD_cons, List.cons_append, List.nil_append, List.append_nil, true_and, and_true, Bool.true_and, Bool.and_true, ea, el, eta, eB]
  generalize amongS (code, a, sd) beatL = u at *
  obtain ⟨d, s1⟩ := u
  simp only at *
  have h1 : 0 ≤ most * d := Int.mul_nonneg hp.2.1 (by omega)
  have h2 : most * d ≤ 1000 * d := Int.mul_le_mul_of_nonneg_right hp.2.2 (by omega)
  generalize most * d = md at *
  have hn := hb.2.1 (by omega)
  refine ⟨⟨hp.1.mono (by omega), by decide, by decide⟩, ?_⟩
  repeat' apply And.intro
  all_goals first | omega | exact hq | rfl
def C_Ds_1 : FuncId → Option Ct := addC 56 ct_l02Beat C_Dr
theorem C_Ds_1_ok : COk Tryz.prog C_Ds_1 := addC_ok C_Dr_ok sat_l02Beat

def C_Ds : FuncId → Option Ct := C_Ds_1
theorem C_Ds_ok : COk Tryz.prog C_Ds := C_Ds_1_ok
end Go.Proofs.YtkeckmdmmbeaiaaGreatDoor
namespace Go.Proofs.YtkeckmdmmbeaiaaGreatDoor
open Go.RowKit Sx
set_option maxRecDepth 100000
set_option maxHeartbeats 1000000
def sampL : List Int := [1, 7, 12, 24, 48, 60, 100, 1000]
/-- The step from a beat to the next one: never 0. -/
def stepS (s : Src) : Fr × Src := (if (beatS s 3).1.1 = 0 then (1, 2) else (beatS s 3).1, (beatS s 3).2)
theorem stepS_ok {s : Src} {m : Int} (h : okS s m) : okS (stepS s).2 (m + 4) := beatS_ok h 3
theorem stepS_bd {s : Src} {m : Int} (h : okS s m) :
    okF (stepS s).1.1 (stepS s).1.2 = true ∧ 1 ≤ (stepS s).1.1 ∧ (stepS s).1.1 ≤ 3 * (stepS s).1.2 ∧ (stepS s).1.2 ≤ 8 := by
  have hb := beatS_bd h (most := 3) (by omega)
  unfold stepS
  split
  · exact ⟨show okF 1 2 = true by decide, by simp, by simp, by simp⟩
  · exact ⟨hb.1, by simp only; omega, hb.2.2.1, hb.2.2.2⟩
def drawT : Nat → Src → Fr → List tTempo.den × Src
  | 0, s, _ => ([], s)
  | n + 1, s, b =>
    (((b, (amongS s sampL).1) : tTempo.den) :: (drawT n (stepS (amongS s sampL).2).2 (addF b.1 b.2 (stepS (amongS s sampL).2).1.1 (stepS (amongS s sampL).2).1.2).1).1,
      (drawT n (stepS (amongS s sampL).2).2 (addF b.1 b.2 (stepS (amongS s sampL).2).1.1 (stepS (amongS s sampL).2).1.2).1).2)
theorem drawT_ok : ∀ (n : Nat) {s : Src} {m : Int} (b : Fr), okS s m → okS (drawT n s b).2 (m + 6 * n)
  | 0, _, _, _, h => h.mono (by omega)
  | n + 1, s, m, b, h => by
    have := drawT_ok n (addF b.1 b.2 (stepS (amongS s sampL).2).1.1 (stepS (amongS s sampL).2).1.2).1 (stepS_ok (amongS_ok h sampL))
    exact this.mono (by omega)
def tmapS (s : Src) : List tTempo.den × Src := drawT (1 + (pickS s 4).1).toNat (pickS s 4).2 (0, 1)
def ann_l17Draw_0 : LAnn := { sameS := [0, 2, 3, 4], modS := [5], sameH := [2], modH := [3, 4, 700000], base := 900000, nilE := [], nilB := [⟨3, 0, 800000, tTempo⟩], G := fun
  | ⟨[.ptr 700000 0, .ptr 2 0, .ptr 3 0, .ptr 4 0], [.box [.nilS]], [.int .i64 k], [[.own (.pair (.pair (.int .i64) (.int .i64)) (.int .i64)) out], [.int .i64 u, .int .i64 v], [.view (Ty.int .u8) code, .int .i64 a, .int .u64 sd]]⟩ => some (.p ((0 ≤ k ∧ k ≤ 4) ∧ (out.length : Int) + k ≤ 4 ∧ okS (code, a, sd) (700000050 - 10 * k)), .leaf (.exit 0) [.int .i64 0] [[.own tTempo (out ++ (drawT k.toNat (code, a, sd) (u, v)).1)], [.unk, .unk], [.view (Ty.int .u8) (drawT k.toNat (code, a, sd) (u, v)).2.1, .int .i64 (drawT k.toNat (code, a, sd) (u, v)).2.2.1, .int .u64 (drawT k.toNat (code, a, sd) (u, v)).2.2.2]])
  | _ => none }
def ct_l17Draw : Ct := ctOfB tSrc [] (fun ((code : List (Ty.int .u8).den), (a : Int), (sd : Int)) _ => .p (okS (code, a, sd) 700000000)) (fun ((code : List (Ty.int .u8).den), (a : Int), (sd : Int)) _ => .agg [.own tTempo (tmapS (code, a, sd)).1]) (fun ((code : List (Ty.int .u8).den), (a : Int), (sd : Int)) _ => (tmapS (code, a, sd)).2)
set_option maxHeartbeats 1000000 in
theorem loop_l17Draw_0 : LoopSat Tryz.prog Tryz.f55.ntmps (loopAt Tryz.f55 0) ann_l17Draw_0 := by
  refine loopSat_of (C := C_Ds) (L := (addL (firstId (loopAt Tryz.f55 0)) ann_l17Draw_0 noL)) (wr := false) mixedOk C_Ds_ok (loopsIn0 (by kernel_rfl)) (fun d => match d.vals with | [.int _ k] => k.toNat | _ => 0) fun d p t hG hp => ?_
  simp only [ann_l17Draw_0] at hG
  split at hG
  rotate_left
  · simp at hG
  rename_i k out u v code a sd
  simp only [Option.some.injEq, Prod.mk.injEq] at hG
  obtain ⟨rfl, rfl⟩ := hG
  have htree : exRound Tryz.prog C_Ds false (addL (firstId (loopAt Tryz.f55 0)) ann_l17Draw_0 noL) Tryz.f55.ntmps ann_l17Draw_0 (loopAt Tryz.f55 0) ⟨[.ptr 700000 0, .ptr 2 0, .ptr 3 0, .ptr 4 0], [.box [.nilS]], [.int .i64 k], [[.own tTempo out], [.int .i64 u, .int .i64 v], [.view (Ty.int .u8) code, .int .i64 a, .int .u64 sd]]⟩ = .ite (decide ((0 : Int) < k)) (.need (okS (code, a, sd) (900000000 : Int) ∧ (1 : Int) ≤ (↑[(1 : Int), (7 : Int), (12 : Int), (24 : Int), (48 : Int), (60 : Int), (100 : Int), (1000 : Int)].length : Int) ∧ (↑[(1 : Int), (7 : Int), (12 : Int), (24 : Int), (48 : Int), (60 : Int), (100 : Int), (1000 : Int)].length : Int) ≤ (1000000 : Int)) (.need (out.length + [((u, v), (amongS (code, a, sd) [(1 : Int), (7 : Int), (12 : Int), (24 : Int), (48 : Int), (60 : Int), (100 : Int), (1000 : Int)]).fst)].length ≤ (16777216 : Nat)) (.need (okS ((amongS (code, a, sd) [(1 : Int), (7 : Int), (12 : Int), (24 : Int), (48 : Int), (60 : Int), (100 : Int), (1000 : Int)]).snd.fst, (amongS (code, a, sd) [(1 : Int), (7 : Int), (12 : Int), (24 : Int), (48 : Int), (60 : Int), (100 : Int), (1000 : Int)]).snd.snd.fst, (amongS (code, a, sd) [(1 : Int), (7 : Int), (12 : Int), (24 : Int), (48 : Int), (60 : Int), (100 : Int), (1000 : Int)]).snd.snd.snd) (800000000 : Int) ∧ (0 : Int) ≤ (3 : Int) ∧ (3 : Int) ≤ (1000 : Int)) (.ite ((beatS ((amongS (code, a, sd) [(1 : Int), (7 : Int), (12 : Int), (24 : Int), (48 : Int), (60 : Int), (100 : Int), (1000 : Int)]).snd.fst, (amongS (code, a, sd) [(1 : Int), (7 : Int), (12 : Int), (24 : Int), (48 : Int), (60 : Int), (100 : Int), (1000 : Int)]).snd.snd.fst, (amongS (code, a, sd) [(1 : Int), (7 : Int), (12 : Int), (24 : Int), (48 : Int), (60 : Int), (100 : Int), (1000 : Int)]).snd.snd.snd) (3 : Int)).fst.fst == (0 : Int)) (.need (inK IntKind.i64 (k - (1 : Int))) (.leaf (.normal, ⟨[.ptr 700000 0, .ptr 2 0, .ptr 3 0, .ptr 4 0], [.box [.nilS]], [.int .i64 (k - (1 : Int))], [[.own (tFrac.pair I64) (out ++ [((u, v), (amongS (code, a, sd) [(1 : Int), (7 : Int), (12 : Int), (24 : Int), (48 : Int), (60 : Int), (100 : Int), (1000 : Int)]).fst)])], [.int .i64 ((addF u v (1 : Int) (2 : Int)).fst.fst), .int .i64 ((addF u v (1 : Int) (2 : Int)).fst.snd)], [.view (Ty.int IntKind.u8) ((beatS ((amongS (code, a, sd) [(1 : Int), (7 : Int), (12 : Int), (24 : Int), (48 : Int), (60 : Int), (100 : Int), (1000 : Int)]).snd.fst, (amongS (code, a, sd) [(1 : Int), (7 : Int), (12 : Int), (24 : Int), (48 : Int), (60 : Int), (100 : Int), (1000 : Int)]).snd.snd.fst, (amongS (code, a, sd) [(1 : Int), (7 : Int), (12 : Int), (24 : Int), (48 : Int), (60 : Int), (100 : Int), (1000 : Int)]).snd.snd.snd) (3 : Int)).snd.fst), .int .i64 ((beatS ((amongS (code, a, sd) [(1 : Int), (7 : Int), (12 : Int), (24 : Int), (48 : Int), (60 : Int), (100 : Int), (1000 : Int)]).snd.fst, (amongS (code, a, sd) [(1 : Int), (7 : Int), (12 : Int), (24 : Int), (48 : Int), (60 : Int), (100 : Int), (1000 : Int)]).snd.snd.fst, (amongS (code, a, sd) [(1 : Int), (7 : Int), (12 : Int), (24 : Int), (48 : Int), (60 : Int), (100 : Int), (1000 : Int)]).snd.snd.snd) (3 : Int)).snd.snd.fst), .int .u64 ((beatS ((amongS (code, a, sd) [(1 : Int), (7 : Int), (12 : Int), (24 : Int), (48 : Int), (60 : Int), (100 : Int), (1000 : Int)]).snd.fst, (amongS (code, a, sd) [(1 : Int), (7 : Int), (12 : Int), (24 : Int), (48 : Int), (60 : Int), (100 : Int), (1000 : Int)]).snd.snd.fst, (amongS (code, a, sd) [(1 : Int), (7 : Int), (12 : Int), (24 : Int), (48 : Int), (60 : Int), (100 : Int), (1000 : Int)]).snd.snd.snd) (3 : Int)).snd.snd.snd)]]⟩))) (.need (inK IntKind.i64 (k - (1 : Int))) (.leaf (.normal, ⟨[.ptr 700000 0, .ptr 2 0, .ptr 3 0, .ptr 4 0], [.box [.nilS]], [.int .i64 (k - (1 : Int))], [[.own (tFrac.pair I64) (out ++ [((u, v), (amongS (code, a, sd) [(1 : Int), (7 : Int), (12 : Int), (24 : Int), (48 : Int), (60 : Int), (100 : Int), (1000 : Int)]).fst)])], [.int .i64 ((addF u v (beatS ((amongS (code, a, sd) [(1 : Int), (7 : Int), (12 : Int), (24 : Int), (48 : Int), (60 : Int), (100 : Int), (1000 : Int)]).snd.fst, (amongS (code, a, sd) [(1 : Int), (7 : Int), (12 : Int), (24 : Int), (48 : Int), (60 : Int), (100 : Int), (1000 : Int)]).snd.snd.fst, (amongS (code, a, sd) [(1 : Int), (7 : Int), (12 : Int), (24 : Int), (48 : Int), (60 : Int), (100 : Int), (1000 : Int)]).snd.snd.snd) (3 : Int)).fst.fst (beatS ((amongS (code, a, sd) [(1 : Int), (7 : Int), (12 : Int), (24 : Int), (48 : Int), (60 : Int), (100 : Int), (1000 : Int)]).snd.fst, (amongS (code, a, sd) [(1 : Int), (7 : Int), (12 : Int), (24 : Int), (48 : Int), (60 : Int), (100 : Int), (1000 : Int)]).snd.snd.fst, (amongS (code, a, sd) [(1 : Int), (7 : Int), (12 : Int), (24 : Int), (48 : Int), (60 : Int), (100 : Int), (1000 : Int)]).snd.snd.snd) (3 : Int)).fst.snd).fst.fst), .int .i64 ((addF u v (beatS ((amongS (code, a, sd) [(1 : Int), (7 : Int), (12 : Int), (24 : Int), (48 : Int), (60 : Int), (100 : Int), (1000 : Int)]).snd.fst, (amongS (code, a, sd) [(1 : Int), (7 : Int), (12 : Int), (24 : Int), (48 : Int), (60 : Int), (100 : Int), (1000 : Int)]).snd.snd.fst, (amongS (code, a, sd) [(1 : Int), (7 : Int), (12 : Int), (24 : Int), (48 : Int), (60 : Int), (100 : Int), (1000 : Int)]).snd.snd.snd) (3 : Int)).fst.fst (beatS ((amongS (code, a, sd) [(1 : Int), (7 : Int), (12 : Int), (24 : Int), (48 : Int), (60 : Int), (100 : Int), (1000 : Int)]).snd.fst, (amongS (code, a, sd) [(1 : Int), (7 : Int), (12 : Int), (24 : Int), (48 : Int), (60 : Int), (100 : Int), (1000 : Int)]).snd.snd.fst, (amongS (code, a, sd) [(1 : Int), (7 : Int), (12 : Int), (24 : Int), (48 : Int), (60 : Int), (100 : Int), (1000 : Int)]).snd.snd.snd) (3 : Int)).fst.snd).fst.snd)], [.view (Ty.int IntKind.u8) ((beatS ((amongS (code, a, sd) [(1 : Int), (7 : Int), (12 : Int), (24 : Int), (48 : Int), (60 : Int), (100 : Int), (1000 : Int)]).snd.fst, (amongS (code, a, sd) [(1 : Int), (7 : Int), (12 : Int), (24 : Int), (48 : Int), (60 : Int), (100 : Int), (1000 : Int)]).snd.snd.fst, (amongS (code, a, sd) [(1 : Int), (7 : Int), (12 : Int), (24 : Int), (48 : Int), (60 : Int), (100 : Int), (1000 : Int)]).snd.snd.snd) (3 : Int)).snd.fst), .int .i64 ((beatS ((amongS (code, a, sd) [(1 : Int), (7 : Int), (12 : Int), (24 : Int), (48 : Int), (60 : Int), (100 : Int), (1000 : Int)]).snd.fst, (amongS (code, a, sd) [(1 : Int), (7 : Int), (12 : Int), (24 : Int), (48 : Int), (60 : Int), (100 : Int), (1000 : Int)]).snd.snd.fst, (amongS (code, a, sd) [(1 : Int), (7 : Int), (12 : Int), (24 : Int), (48 : Int), (60 : Int), (100 : Int), (1000 : Int)]).snd.snd.snd) (3 : Int)).snd.snd.fst), .int .u64 ((beatS ((amongS (code, a, sd) [(1 : Int), (7 : Int), (12 : Int), (24 : Int), (48 : Int), (60 : Int), (100 : Int), (1000 : Int)]).snd.fst, (amongS (code, a, sd) [(1 : Int), (7 : Int), (12 : Int), (24 : Int), (48 : Int), (60 : Int), (100 : Int), (1000 : Int)]).snd.snd.fst, (amongS (code, a, sd) [(1 : Int), (7 : Int), (12 : Int), (24 : Int), (48 : Int), (60 : Int), (100 : Int), (1000 : Int)]).snd.snd.snd) (3 : Int)).snd.snd.snd)]]⟩))))))) (.leaf ((.exit 0), ⟨[.ptr 700000 0, .ptr 2 0, .ptr 3 0, .ptr 4 0], [.box [.nilS]], [.int .i64 (k)], [[.own (tFrac.pair I64) (out)], [.int .i64 (u), .int .i64 (v)], [.view (Ty.int IntKind.u8) (code), .int .i64 (a), .int .u64 (sd)]]⟩)) := by kernel_rfl
  rw [htree]
  clear htree
  replace hp : (0 ≤ k ∧ k ≤ 4) ∧ (out.length : Int) + k ≤ 4 ∧ okS (code, a, sd) (700000050 - 10 * k) := hp
  have ea : amongS (code, a, sd) [1, 7, 12, 24, 48, 60, 100, 1000] = amongS (code, a, sd) sampL := rfl
  have eta : ∀ s : Src, (s.1, s.2.1, s.2.2) = s := fun _ => rfl
  obtain ⟨hk, hl, ho⟩ := hp
  simp only [Tree.ok, tyd_inj, packAV, AV.same, AV.same.sameL, encV, encS, enc, inK, Nd.ok, List.headD_cons, List.cons_append, List.nil_append, List.append_nil, true_and, and_true, Bool.true_and, Bool.and_true, loop_next, weakBs_nil, weakBs_cons, weakB_self, weakB_row, weakB_int, weakL_nil, weakL_unk, weakL_guess, isRow_own, isRow_unk, weakL_int, weakL_bool, weakL_str, weakL_own, weakL_view, weakL_nilS, noRow_int, noRow_bool, own_inj, LTree.val, cond_true, cond_false, Prod.mk.injEq, List.cons.injEq, AV.int.injEq, AV.bool.injEq, AV.str.injEq, AV.agg.injEq, ann_l17Draw_0, ea, eta, decide_eq_true_eq, decide_eq_false_iff_not, beq_iff_eq, beq_eq_false_iff_ne, ne_eq]
  refine ⟨fun hk0 => ?_, fun hk0 => ?_⟩
  · have hs := amongS_ok ho sampL
    have h2 := (beatS_ok hs 3).mono (show 700000050 - 10 * k + 2 + 4 ≤ 700000050 - 10 * (k - 1) by omega)
    have eD : drawT k.toNat (code, a, sd) (u, v) = ((((u, v), (amongS (code, a, sd) sampL).1) : tTempo.den) :: (drawT (k - 1).toNat (stepS (amongS (code, a, sd) sampL).2).2 (addF u v (stepS (amongS (code, a, sd) sampL).2).1.1 (stepS (amongS (code, a, sd) sampL).2).1.2).1).1,
        (drawT (k - 1).toNat (stepS (amongS (code, a, sd) sampL).2).2 (addF u v (stepS (amongS (code, a, sd) sampL).2).1.1 (stepS (amongS (code, a, sd) sampL).2).1.2).1).2) := by
      rw [show k.toNat = (k - 1).toNat + 1 by omega]; rfl
    have eS : ∀ s : Src, stepS s = (if (beatS s 3).1.1 = 0 then (1, 2) else (beatS s 3).1, (beatS s 3).2) := fun _ => rfl
    rw [eD, eS]
    have hs8 := hs.mono (show 700000050 - 10 * k + 2 ≤ 800000000 by omega)
    have ho9 := ho.mono (show 700000050 - 10 * k ≤ 900000000 by omega)
    clear eD eS hs ea
    generalize amongS (code, a, sd) sampL = w at *
    generalize beatS w.2 3 = b at *
    obtain ⟨⟨b1, b2⟩, b3⟩ := b
    by_cases hb : b1 = 0
    · subst hb
      simp only [if_true, List.append_assoc, List.cons_append, List.nil_append, List.length_append, List.length_cons, List.length_nil]
      refine ⟨⟨ho9, by decide, by decide⟩, by omega, ⟨hs8, by decide, by decide⟩, ?_⟩
      repeat' first | apply And.intro | intro _
      all_goals first | omega | exact h2 | trivial | rfl | contradiction
    · simp only [if_neg hb, List.append_assoc, List.cons_append, List.nil_append, List.length_append, List.length_cons, List.length_nil]
      refine ⟨⟨ho9, by decide, by decide⟩, by omega, ⟨hs8, by decide, by decide⟩, ?_⟩
      repeat' first | apply And.intro | intro _
      all_goals first | omega | exact h2 | trivial | rfl | contradiction
  · obtain rfl : k = 0 := by omega
    simp [Tree.ok, tyd_inj, packAV, AV.same, AV.same.sameL, encV, encS, enc, inK, Nd.ok, List.headD_cons, List.cons_append, List.nil_append, List.append_nil, true_and, and_true, Bool.true_and, Bool.and_true, loop_next, weakBs_nil, weakBs_cons, weakB_self, weakB_row, weakB_int, weakL_nil, weakL_unk, weakL_guess, isRow_own, isRow_unk, weakL_int, weakL_bool, weakL_str, weakL_own, weakL_view, weakL_nilS, noRow_int, noRow_bool, own_inj, LTree.val, cond_true, cond_false, Prod.mk.injEq, List.cons.injEq, AV.int.injEq, AV.bool.injEq, AV.str.injEq, AV.agg.injEq, drawT]
theorem loops_l17Draw : ∀ c, Tryz.f55.body = some c → LoopsOk Tryz.prog (addL (firstId (loopAt Tryz.f55 0)) ann_l17Draw_0 noL) Tryz.f55.ntmps c := loopsN fun i hi ann h => by
  have hn : loopN Tryz.f55 = 1 := by kernel_rfl
  rw [hn] at hi
  exact match i, hi, h with
    | 0, _, h => (Option.some.inj ((show (addL (firstId (loopAt Tryz.f55 0)) ann_l17Draw_0 noL) (firstId (loopAt Tryz.f55 0)) = some ann_l17Draw_0 from by kernel_rfl).symm.trans h)) ▸ loop_l17Draw_0
set_option maxHeartbeats 1000000 in
theorem sat_l17Draw : Sat Tryz.prog 55 ct_l17Draw := by
  refine sat_typedB (C := C_Ds) (L := (addL (firstId (loopAt Tryz.f55 0)) ann_l17Draw_0 noL)) (wr := false) mixedOk Tryz.func55 C_Ds_ok (loops_l17Draw) (fun _ _ => by first | rfl | (simp [ownsOf, ownsOf.ownsL, enc, encV, encS])) fun bx x hp => ?_
  obtain ⟨(code : List (Ty.int .u8).den), (a : Int), (sd : Int)⟩ := bx
  obtain _ := x
  replace hp : okS (code, a, sd) 700000000 := hp
  have htree : exFuncB Tryz.prog C_Ds false (addL (firstId (loopAt Tryz.f55 0)) ann_l17Draw_0 noL) Tryz.f55 (encA [] ()) ⟨tSrc, (code, a, sd)⟩ = .need (okS (code, a, sd) (900000000 : Int) ∧ (4 : Int) ≤ (1000000 : Int)) (.need (inK IntKind.i64 ((1 : Int) + (pickS (code, a, sd) (4 : Int)).fst)) (.need (((0 : Int) ≤ (1 : Int) + (pickS (code, a, sd) (4 : Int)).fst ∧ (1 : Int) + (pickS (code, a, sd) (4 : Int)).fst ≤ (4 : Int)) ∧ (↑(0 : Nat) : Int) + ((1 : Int) + (pickS (code, a, sd) (4 : Int)).fst) ≤ (4 : Int) ∧ okS ((pickS (code, a, sd) (4 : Int)).snd.fst, (pickS (code, a, sd) (4 : Int)).snd.snd.fst, (pickS (code, a, sd) (4 : Int)).snd.snd.snd) ((700000050 : Int) - (10 : Int) * ((1 : Int) + (pickS (code, a, sd) (4 : Int)).fst))) (.leaf ([.agg [.own (tFrac.pair I64) ([] ++ (drawT ((1 : Int) + (pickS (code, a, sd) (4 : Int)).fst).toNat ((pickS (code, a, sd) (4 : Int)).snd.fst, (pickS (code, a, sd) (4 : Int)).snd.snd.fst, (pickS (code, a, sd) (4 : Int)).snd.snd.snd) ((0 : Int), (1 : Int))).fst)]], ⟨(Ty.int IntKind.u8).seq.pair ((Ty.int IntKind.i64).pair (Ty.int IntKind.u64)), ((drawT ((1 : Int) + (pickS (code, a, sd) (4 : Int)).fst).toNat ((pickS (code, a, sd) (4 : Int)).snd.fst, (pickS (code, a, sd) (4 : Int)).snd.snd.fst, (pickS (code, a, sd) (4 : Int)).snd.snd.snd) ((0 : Int), (1 : Int))).snd.fst, (drawT ((1 : Int) + (pickS (code, a, sd) (4 : Int)).fst).toNat ((pickS (code, a, sd) (4 : Int)).snd.fst, (pickS (code, a, sd) (4 : Int)).snd.snd.fst, (pickS (code, a, sd) (4 : Int)).snd.snd.snd) ((0 : Int), (1 : Int))).snd.snd.fst, (drawT ((1 : Int) + (pickS (code, a, sd) (4 : Int)).fst).toNat ((pickS (code, a, sd) (4 : Int)).snd.fst, (pickS (code, a, sd) (4 : Int)).snd.snd.fst, (pickS (code, a, sd) (4 : Int)).snd.snd.snd) ((0 : Int), (1 : Int))).snd.snd.snd)⟩)))) := by kernel_rfl
  refine (congrArg (Tree.ok _) htree).mpr ?_
  clear htree
  have eta : ∀ s : Src, (s.1, s.2.1, s.2.2) = s := fun _ => rfl
  have hb := pickS_bd hp 4
  have hq := (pickS_ok hp 4).mono (show (700000000 : Int) + 2 ≤ 700000050 - 10 * (1 + (pickS (code, a, sd) 4).1) by omega)
  have eT : tmapS (code, a, sd) = drawT (1 + (pickS (code, a, sd) 4).1).toNat (pickS (code, a, sd) 4).2 (0, 1) := rfl
  simp only [Tree.ok, tyd_inj, packAV, AV.same, AV.same.sameL, encV, encS, enc, inK, Nd.ok, List.headD_cons, List.cons_append, List.nil_append, List.append_nil, true_and, and_true, Bool.true_and, Bool.and_true, eta, eT, List.nil_append]
  repeat' apply And.intro
  all_goals first | omega | exact hp.mono (by omega) | exact hq | rfl | (simp; omega)
def C_Dt_1 : FuncId → Option Ct := addC 55 ct_l17Draw C_Ds
theorem C_Dt_1_ok : COk Tryz.prog C_Dt_1 := addC_ok C_Ds_ok sat_l17Draw

def C_Dt : FuncId → Option Ct := C_Dt_1
theorem C_Dt_ok : COk Tryz.prog C_Dt := C_Dt_1_ok
end Go.Proofs.YtkeckmdmmbeaiaaGreatDoor
namespace Go.Proofs.YtkeckmdmmbeaiaaGreatDoor
open Go.RowKit Sx
set_option maxRecDepth 100000
set_option maxHeartbeats 1000000
def bytesOk (l : List Int) : Prop := ∀ z ∈ l, 0 ≤ z ∧ z ≤ 255
theorem from_ok {l : List Int} (h : bytesOk l) : okS ((l, 0, 0) : Src) 0 := ⟨by simp, by simp, h⟩
theorem tmapS_ok {s : Src} {m : Int} (h : okS s m) : okS (tmapS s).2 (m + 26) := by
  have hb := pickS_bd h 4
  have h1 := hb.2.1 (by omega)
  have := drawT_ok (1 + (pickS s 4).1).toNat (0, 1) (pickS_ok h 4)
  exact this.mono (by omega)
def A2T (l : List Int) : List tTempo.den × Fr × Fr :=
  ((tmapS (l, 0, 0)).1, (beatS (tmapS (l, 0, 0)).2 10).1, (beatS (beatS (tmapS (l, 0, 0)).2 10).2 10).1)
def ct_A2Tempos : Ct := ctOf [.v (.seq (.int .u8))] (fun ((code : List (Ty.int .u8).den), _) => .p (bytesOk code)) (fun ((code : List (Ty.int .u8).den), _) => .tup [.agg [.own tTempo (A2T code).1], .agg (enc tFrac (A2T code).2.1), .agg (enc tFrac (A2T code).2.2)])
set_option maxHeartbeats 1000000 in
theorem sat_A2Tempos : Sat Tryz.prog 13 ct_A2Tempos := by
  refine sat_typed (C := C_Dt) (L := noL) (wr := false) mixedOk Tryz.func13 C_Dt_ok (loops0 (by kernel_rfl)) (fun _ => by first | rfl | (simp [ownsOf, ownsOf.ownsL, enc, encV, encS])) fun x hp => ?_
  obtain ⟨(code : List (Ty.int .u8).den), _⟩ := x
  replace hp : bytesOk code := hp
  have htree : exFunc Tryz.prog C_Dt false noL Tryz.f13 (encA [.v (.seq (.int .u8))] (code, ())) = .need (okS (code, (0 : I64.den), (0 : (Ty.int IntKind.u64).den)) (700000000 : Int)) (.need (okS ((tmapS (code, (0 : I64.den), (0 : (Ty.int IntKind.u64).den))).snd.fst, (tmapS (code, (0 : I64.den), (0 : (Ty.int IntKind.u64).den))).snd.snd.fst, (tmapS (code, (0 : I64.den), (0 : (Ty.int IntKind.u64).den))).snd.snd.snd) (800000000 : Int) ∧ (0 : Int) ≤ (10 : Int) ∧ (10 : Int) ≤ (1000 : Int)) (.need (okS ((beatS ((tmapS (code, (0 : I64.den), (0 : (Ty.int IntKind.u64).den))).snd.fst, (tmapS (code, (0 : I64.den), (0 : (Ty.int IntKind.u64).den))).snd.snd.fst, (tmapS (code, (0 : I64.den), (0 : (Ty.int IntKind.u64).den))).snd.snd.snd) (10 : Int)).snd.fst, (beatS ((tmapS (code, (0 : I64.den), (0 : (Ty.int IntKind.u64).den))).snd.fst, (tmapS (code, (0 : I64.den), (0 : (Ty.int IntKind.u64).den))).snd.snd.fst, (tmapS (code, (0 : I64.den), (0 : (Ty.int IntKind.u64).den))).snd.snd.snd) (10 : Int)).snd.snd.fst, (beatS ((tmapS (code, (0 : I64.den), (0 : (Ty.int IntKind.u64).den))).snd.fst, (tmapS (code, (0 : I64.den), (0 : (Ty.int IntKind.u64).den))).snd.snd.fst, (tmapS (code, (0 : I64.den), (0 : (Ty.int IntKind.u64).den))).snd.snd.snd) (10 : Int)).snd.snd.snd) (800000000 : Int) ∧ (0 : Int) ≤ (10 : Int) ∧ (10 : Int) ≤ (1000 : Int)) (.leaf [.agg [.own (tFrac.pair I64) ((tmapS (code, (0 : I64.den), (0 : (Ty.int IntKind.u64).den))).fst)], .agg [.int .i64 ((beatS ((tmapS (code, (0 : I64.den), (0 : (Ty.int IntKind.u64).den))).snd.fst, (tmapS (code, (0 : I64.den), (0 : (Ty.int IntKind.u64).den))).snd.snd.fst, (tmapS (code, (0 : I64.den), (0 : (Ty.int IntKind.u64).den))).snd.snd.snd) (10 : Int)).fst.fst), .int .i64 ((beatS ((tmapS (code, (0 : I64.den), (0 : (Ty.int IntKind.u64).den))).snd.fst, (tmapS (code, (0 : I64.den), (0 : (Ty.int IntKind.u64).den))).snd.snd.fst, (tmapS (code, (0 : I64.den), (0 : (Ty.int IntKind.u64).den))).snd.snd.snd) (10 : Int)).fst.snd)], .agg [.int .i64 ((beatS ((beatS ((tmapS (code, (0 : I64.den), (0 : (Ty.int IntKind.u64).den))).snd.fst, (tmapS (code, (0 : I64.den), (0 : (Ty.int IntKind.u64).den))).snd.snd.fst, (tmapS (code, (0 : I64.den), (0 : (Ty.int IntKind.u64).den))).snd.snd.snd) (10 : Int)).snd.fst, (beatS ((tmapS (code, (0 : I64.den), (0 : (Ty.int IntKind.u64).den))).snd.fst, (tmapS (code, (0 : I64.den), (0 : (Ty.int IntKind.u64).den))).snd.snd.fst, (tmapS (code, (0 : I64.den), (0 : (Ty.int IntKind.u64).den))).snd.snd.snd) (10 : Int)).snd.snd.fst, (beatS ((tmapS (code, (0 : I64.den), (0 : (Ty.int IntKind.u64).den))).snd.fst, (tmapS (code, (0 : I64.den), (0 : (Ty.int IntKind.u64).den))).snd.snd.fst, (tmapS (code, (0 : I64.den), (0 : (Ty.int IntKind.u64).den))).snd.snd.snd) (10 : Int)).snd.snd.snd) (10 : Int)).fst.fst), .int .i64 ((beatS ((beatS ((tmapS (code, (0 : I64.den), (0 : (Ty.int IntKind.u64).den))).snd.fst, (tmapS (code, (0 : I64.den), (0 : (Ty.int IntKind.u64).den))).snd.snd.fst, (tmapS (code, (0 : I64.den), (0 : (Ty.int IntKind.u64).den))).snd.snd.snd) (10 : Int)).snd.fst, (beatS ((tmapS (code, (0 : I64.den), (0 : (Ty.int IntKind.u64).den))).snd.fst, (tmapS (code, (0 : I64.den), (0 : (Ty.int IntKind.u64).den))).snd.snd.fst, (tmapS (code, (0 : I64.den), (0 : (Ty.int IntKind.u64).den))).snd.snd.snd) (10 : Int)).snd.snd.fst, (beatS ((tmapS (code, (0 : I64.den), (0 : (Ty.int IntKind.u64).den))).snd.fst, (tmapS (code, (0 : I64.den), (0 : (Ty.int IntKind.u64).den))).snd.snd.fst, (tmapS (code, (0 : I64.den), (0 : (Ty.int IntKind.u64).den))).snd.snd.snd) (10 : Int)).snd.snd.snd) (10 : Int)).fst.snd)]]))) := by kernel_rfl
  refine (congrArg (Tree.ok _) htree).mpr ?_
  clear htree
  have eta : ∀ s : Src, (s.1, s.2.1, s.2.2) = s := fun _ => rfl
  have h0 := from_ok hp
  have h1 := tmapS_ok h0
  have h2 := beatS_ok h1 10
  simp only [Tree.ok, tyd_inj, packAV, AV.same, AV.same.sameL, encV, encS, enc, inK, Nd.ok, List.headD_cons, List.cons_append, List.nil_append, List.append_nil, true_and, and_true, Bool.true_and, Bool.and_true, eta]
  refine ⟨h0.mono (by omega), ⟨h1.mono (by omega), by decide, by decide⟩, ⟨h2.mono (by omega), by decide, by decide⟩, ?_⟩
  repeat' apply And.intro
  all_goals rfl
def C_Du_1 : FuncId → Option Ct := addC 13 ct_A2Tempos C_Dt
theorem C_Du_1_ok : COk Tryz.prog C_Du_1 := addC_ok C_Dt_ok sat_A2Tempos
def ct_a2Long : Ct := ctOf [.v (.seq (.int .u8)), .v (.seq (.int .u8))] (fun _ => .tt) (fun ((code : List (Ty.int .u8).den), (more : List (Ty.int .u8).den), _) => .bool (decide ((3000 : Int) < (code.length : Int)) || decide ((3000 : Int) < (more.length : Int))))
set_option maxHeartbeats 1000000 in
theorem sat_a2Long : Sat Tryz.prog 12 ct_a2Long := by
  refine sat_typed (C := C_Du_1) (L := noL) (wr := false) mixedOk Tryz.func12 C_Du_1_ok (loops0 (by kernel_rfl)) (fun _ => by first | rfl | (simp [ownsOf, ownsOf.ownsL, enc, encV, encS])) fun x hp => ?_
  obtain ⟨(code : List (Ty.int .u8).den), (more : List (Ty.int .u8).den), _⟩ := x
  clear hp
  have htree : exFunc Tryz.prog C_Du_1 false noL Tryz.f12 (encA [.v (.seq (.int .u8)), .v (.seq (.int .u8))] (code, more, ())) = .ite (decide ((3000 : Int) < (↑code.length : Int))) (.leaf [.lit true]) (.leaf [.bool (decide ((3000 : Int) < (↑more.length : Int)))]) := by kernel_rfl
  refine (congrArg (Tree.ok _) htree).mpr ?_
  clear htree
  simp only [Tree.ok, tyd_inj, packAV, AV.same, AV.same.sameL, encV, encS, enc, inK, Nd.ok, List.headD_cons, List.cons_append, List.nil_append, List.append_nil, true_and, and_true, Bool.true_and, Bool.and_true]
  repeat' first | apply And.intro | intro _
  all_goals (simp_all; try omega)
def C_Du_2 : FuncId → Option Ct := addC 12 ct_a2Long C_Du_1
theorem C_Du_2_ok : COk Tryz.prog C_Du_2 := addC_ok C_Du_1_ok sat_a2Long
def a2At (l : List Int) (i n : Int) : Int := if (l.length : Int) ≤ i ∨ n < 1 then 0 else l.getD i.toNat 0 % n
theorem a2At_bd {l : List Int} (h : bytesOk l) {i : Int} (hi : 0 ≤ i) (n : Int) : 0 ≤ a2At l i n ∧ (1 ≤ n → a2At l i n ≤ n - 1) := by
  unfold a2At
  split
  · exact ⟨by omega, fun _ => by omega⟩
  · rename_i hc
    have e1 := Int.emod_nonneg (l.getD i.toNat 0) (b := n) (by omega)
    have e2 := Int.emod_lt_of_pos (l.getD i.toNat 0) (b := n) (by omega)
    exact ⟨e1, fun _ => by omega⟩
def ct_a2At : Ct := ctOf [.v (.seq (.int .u8)), .v (.int .i64), .v (.int .i64)] (fun ((code : List (Ty.int .u8).den), (i : Int), (n : Int), _) => .p (bytesOk code ∧ 0 ≤ i)) (fun ((code : List (Ty.int .u8).den), (i : Int), (n : Int), _) => .int .i64 (a2At code i n))
set_option maxHeartbeats 1000000 in
theorem sat_a2At : Sat Tryz.prog 22 ct_a2At := by
  refine sat_typed (C := C_Du_2) (L := noL) (wr := false) mixedOk Tryz.func22 C_Du_2_ok (loops0 (by kernel_rfl)) (fun _ => by first | rfl | (simp [ownsOf, ownsOf.ownsL, enc, encV, encS])) fun x hp => ?_
  obtain ⟨(code : List (Ty.int .u8).den), (i : Int), (n : Int), _⟩ := x
  replace hp : bytesOk code ∧ 0 ≤ i := hp
  have htree : exFunc Tryz.prog C_Du_2 false noL Tryz.f22 (encA [.v (.seq (.int .u8)), .v (.int .i64), .v (.int .i64)] (code, i, n, ())) = .ite (decide ((↑code.length : Int) ≤ i)) (.leaf [.int .i64 ((0 : Int))]) (.ite (decide (n < (1 : Int))) (.leaf [.int .i64 ((0 : Int))]) (.need ((0 : Int) ≤ i ∧ i < (↑code.length : Int)) (.need (inK IntKind.i64 (getT (Ty.int IntKind.u8) code i)) (.need (n ≠ (0 : Int)) (.leaf [.int .i64 (Int.tmod (getT (Ty.int IntKind.u8) code i) n)]))))) := by kernel_rfl
  refine (congrArg (Tree.ok _) htree).mpr ?_
  clear htree
  have hg : getT (Ty.int .u8) code i = (code : List Int).getD i.toNat 0 := rfl
  have hv : a2At code i n = if (code.length : Int) ≤ i ∨ n < 1 then 0 else (code : List Int).getD i.toNat 0 % n := rfl
  simp only [Tree.ok, tyd_inj, packAV, AV.same, AV.same.sameL, encV, encS, enc, inK, Nd.ok, List.headD_cons, List.cons_append, List.nil_append, List.append_nil, true_and, and_true, Bool.true_and, Bool.and_true, hg, hv, decide_eq_true_eq, decide_eq_false_iff_not]
  by_cases h1 : (code.length : Int) ≤ i
  · rw [if_pos (Or.inl h1)]
    exact ⟨fun _ => rfl, fun h => absurd h1 h⟩
  · by_cases h2 : n < 1
    · rw [if_pos (Or.inr h2)]
      exact ⟨fun h => absurd h h1, fun _ => ⟨fun _ => rfl, fun h => absurd h2 h⟩⟩
    · rw [if_neg (by omega)]
      have hb : 0 ≤ (code : List Int).getD i.toNat 0 ∧ (code : List Int).getD i.toNat 0 ≤ 255 := by
        rw [getD_lt _ _ _ (by omega)]
        exact hp.1 _ (List.getElem_mem _)
      refine ⟨fun h => absurd h h1, fun _ => ⟨fun h => absurd h h2, fun _ => ?_⟩⟩
      refine ⟨⟨hp.2, by omega⟩, (show (-9223372036854775808 : Int) ≤ (code : List Int).getD i.toNat 0 ∧ (code : List Int).getD i.toNat 0 ≤ 9223372036854775807 from ⟨Int.le_trans (by decide) hb.1, Int.le_trans hb.2 (by decide)⟩), by omega, ?_⟩
      exact Int.tmod_eq_emod_of_nonneg hb.1
def C_Du_3 : FuncId → Option Ct := addC 22 ct_a2At C_Du_2
theorem C_Du_3_ok : COk Tryz.prog C_Du_3 := addC_ok C_Du_2_ok sat_a2At

def C_Du : FuncId → Option Ct := C_Du_3
theorem C_Du_ok : COk Tryz.prog C_Du := C_Du_3_ok
end Go.Proofs.YtkeckmdmmbeaiaaGreatDoor
namespace Go.Proofs.YtkeckmdmmbeaiaaGreatDoor
open Go.RowKit Sx
def qF (x : Fr) : Rat := (x.1 : Rat) / (x.2 : Rat)
theorem cast_ne {n : Int} (h : n ≠ 0) : (n : Rat) ≠ 0 := fun e => h (Rat.intCast_inj.mp (by simpa using e))
theorem cast_pos {n : Int} (h : 0 < n) : (0 : Rat) < (n : Rat) := by exact_mod_cast h
theorem mkF_part {n d : Int} (hd : d ≠ 0) (h : (mkF n d).2 = 0) : (mkF n d).1.1 * d = n * (mkF n d).1.2 ∧ 0 < (mkF n d).1.2 := by
  have hb := okF_bd (mkF_ok hd h)
  refine ⟨?_, by omega⟩
  have g1 := gcd_pos (n := n) (d := d) hd
  have hm := mkF_pos n d hd
  rw [hm] at h
  have d1 : (Int.gcd n d : Int) ∣ (n.natAbs : Int) := Int.dvd_natAbs.mpr (Int.gcd_dvd_left ..)
  have d2 : (Int.gcd n d : Int) ∣ (d.natAbs : Int) := Int.dvd_natAbs.mpr (Int.gcd_dvd_right ..)
  have m1 := Int.mul_ediv_cancel' d1
  have m2 := Int.mul_ediv_cancel' d2
  split at h
  · simp at h
  · rename_i hc
    rw [if_neg hc] at hm
    rw [hm]
    simp only
    generalize (n.natAbs : Int) / (Int.gcd n d : Int) = a at *
    generalize (d.natAbs : Int) / (Int.gcd n d : Int) = b at *
    generalize (Int.gcd n d : Int) = g at *
    by_cases hn : n < 0 <;> by_cases hd0 : d < 0
    · have e1 : n = -(g * a) := by omega
      have e2 : d = -(g * b) := by omega
      rw [e1, e2]; simp [decide_eq_true (show -(g * a) < 0 by omega), decide_eq_true (show -(g * b) < 0 by omega)]; grind
    · have e1 : n = -(g * a) := by omega
      have e2 : d = g * b := by omega
      rw [e1, e2]; simp [decide_eq_true (show -(g * a) < 0 by omega), decide_eq_false (show ¬ g * b < 0 by omega)]; grind
    · have e1 : n = g * a := by omega
      have e2 : d = -(g * b) := by omega
      rw [e1, e2]; simp [decide_eq_false (show ¬ g * a < 0 by omega), decide_eq_true (show -(g * b) < 0 by omega)]; grind
    · have e1 : n = g * a := by omega
      have e2 : d = g * b := by omega
      rw [e1, e2]; simp [decide_eq_false (show ¬ g * a < 0 by omega), decide_eq_false (show ¬ g * b < 0 by omega)]; grind
theorem mkF_q {n d : Int} (hd : d ≠ 0) (h : (mkF n d).2 = 0) : qF (mkF n d).1 = (n : Rat) / (d : Rat) := by
  obtain ⟨e, p⟩ := mkF_part hd h
  unfold qF
  generalize (mkF n d).1.1 = a at *
  generalize (mkF n d).1.2 = b at *
  have e' : (a : Rat) * (d : Rat) = (n : Rat) * (b : Rat) := by exact_mod_cast e
  have h1 := cast_ne hd
  have h2 := cast_ne (show b ≠ 0 by omega)
  grind
theorem opF_q {n d : Int} {c : Bool} (hd : d ≠ 0) (h : (opF n d c).2 = 0) : qF (opF n d c).1 = (n : Rat) / (d : Rat) := by
  unfold opF at *
  split at h
  · rename_i hc
    rw [if_pos hc]
    exact mkF_q hd h
  · simp at h
theorem okF_den {x : Fr} (h : okF x.1 x.2 = true) : (x.2 : Rat) ≠ 0 ∧ 0 < x.2 := ⟨cast_ne (by have := okF_bd h; omega), by have := okF_bd h; omega⟩
theorem addF_q {a b : Fr} (ha : okF a.1 a.2 = true) (hb : okF b.1 b.2 = true) (h : (addF a.1 a.2 b.1 b.2).2 = 0) : qF (addF a.1 a.2 b.1 b.2).1 = qF a + qF b := by
  unfold addF at *
  rw [opF_q (mul_ne ha hb) h]
  have h1 := (okF_den ha).1
  have h2 := (okF_den hb).1
  unfold qF
  simp only [Rat.intCast_mul, Rat.intCast_add]
  grind
theorem subF_q {a b : Fr} (ha : okF a.1 a.2 = true) (hb : okF b.1 b.2 = true) (h : (subF a.1 a.2 b.1 b.2).2 = 0) : qF (subF a.1 a.2 b.1 b.2).1 = qF a - qF b := by
  unfold subF at *
  rw [opF_q (mul_ne ha hb) h]
  have h1 := (okF_den ha).1
  have h2 := (okF_den hb).1
  unfold qF
  simp only [Rat.intCast_mul, Rat.intCast_sub]
  grind
theorem mulF_q {a b : Fr} (ha : okF a.1 a.2 = true) (hb : okF b.1 b.2 = true) (h : (mulF a.1 a.2 b.1 b.2).2 = 0) : qF (mulF a.1 a.2 b.1 b.2).1 = qF a * qF b := by
  unfold mulF at *
  rw [opF_q (mul_ne ha hb) h]
  have h1 := (okF_den ha).1
  have h2 := (okF_den hb).1
  unfold qF
  simp only [Rat.intCast_mul]
  grind
theorem qF_cross {a b : Fr} (ha : okF a.1 a.2 = true) (hb : okF b.1 b.2 = true) : qF a = qF b ↔ a.1 * b.2 = b.1 * a.2 := by
  have h1 := (okF_den ha).1
  have h2 := (okF_den hb).1
  have : a.1 * b.2 = b.1 * a.2 ↔ (a.1 : Rat) * (b.2 : Rat) = (b.1 : Rat) * (a.2 : Rat) := by
    constructor
    · intro h; exact_mod_cast h
    · intro h; exact_mod_cast h
  rw [this]
  unfold qF
  constructor <;> intro h <;> grind
theorem int_cop {a b c : Int} (h : Int.gcd b a = 1) (hd : a ∣ c * b) : a ∣ c := by
  have := Int.natAbs_dvd_natAbs.mpr hd
  rw [Int.natAbs_mul] at this
  exact Int.natAbs_dvd_natAbs.mp (Nat.Coprime.dvd_of_dvd_mul_right (by rw [Nat.Coprime, Nat.gcd_comm]; exact h) this)
/-- Two valid fractions of one value are the same. -/
theorem qF_inj {a b : Fr} (ha : okF a.1 a.2 = true) (hb : okF b.1 b.2 = true) (h : qF a = qF b) : a = b := by
  have hc := (qF_cross ha hb).mp h
  have pa := okF_bd ha
  have pb := okF_bd hb
  simp only [okF, Bool.and_eq_true, inB_iff, beq_iff_eq] at ha hb
  have ga : Int.gcd a.1 a.2 = 1 := by have := ha.2.2; omega
  have gb : Int.gcd b.1 b.2 = 1 := by have := hb.2.2; omega
  have d1 : a.2 ∣ b.2 := by
    have : a.2 ∣ b.2 * a.1 := ⟨b.1, by rw [Int.mul_comm b.2, hc, Int.mul_comm]⟩
    exact int_cop ga this
  have d2 : b.2 ∣ a.2 := by
    have : b.2 ∣ a.2 * b.1 := ⟨a.1, by rw [Int.mul_comm a.2, ← hc, Int.mul_comm]⟩
    exact int_cop gb this
  have e2 : a.2 = b.2 := Int.dvd_antisymm (by omega) (by omega) d1 d2
  rw [e2] at hc
  have e1 : a.1 = b.1 := Int.eq_of_mul_eq_mul_right (by omega) hc
  exact Prod.ext e1 e2
theorem qF_le {a b : Fr} (ha : 0 < a.2) (hb : 0 < b.2) : cmpB a b < 0 ↔ qF a < qF b := by
  rw [cmpB_lt]
  have h1 := cast_pos ha
  have h2 := cast_pos hb
  have : a.1 * b.2 < b.1 * a.2 ↔ (a.1 : Rat) * (b.2 : Rat) < (b.1 : Rat) * (a.2 : Rat) := by
    constructor
    · intro h; exact_mod_cast h
    · intro h; exact_mod_cast h
  rw [this]
  have ea : qF a * (a.2 : Rat) = (a.1 : Rat) := by unfold qF; grind
  have eb : qF b * (b.2 : Rat) = (b.1 : Rat) := by unfold qF; grind
  rw [← ea, ← eb]
  generalize qF a = x at *
  generalize qF b = y at *
  have h3 : (0 : Rat) < (a.2 : Rat) * (b.2 : Rat) := Rat.mul_pos h1 h2
  have e1 : x * (a.2 : Rat) * (b.2 : Rat) = x * ((a.2 : Rat) * (b.2 : Rat)) := by grind
  have e2 : y * (b.2 : Rat) * (a.2 : Rat) = y * ((a.2 : Rat) * (b.2 : Rat)) := by grind
  rw [e1, e2]
  constructor
  · intro h; exact Rat.lt_of_mul_lt_mul_right h (Rat.le_of_lt h3)
  · intro h; exact Rat.mul_lt_mul_of_pos_right h h3
theorem qF_int (s : Int) : qF (s, 1) = (s : Rat) := by unfold qF; show (s : Rat) / ((1 : Int) : Rat) = (s : Rat); have : ((1 : Int) : Rat) = 1 := rfl; rw [this]; grind
end Go.Proofs.YtkeckmdmmbeaiaaGreatDoor
namespace Go.Proofs.YtkeckmdmmbeaiaaGreatDoor
open Go.RowKit Sx
/-- A fraction is made where a valid one of the same value is. -/
theorem mkF_of {x : Fr} {n d : Int} (hx : okF x.1 x.2 = true) (hd : 0 < d) (h : x.1 * d = n * x.2) : mkF n d = (x, 0) := by
  have hb := okF_bd hx
  have hx' := hx
  simp only [okF, Bool.and_eq_true, inB_iff, beq_iff_eq] at hx'
  have gx : Int.gcd x.1 x.2 = 1 := by have := hx'.2.2; omega
  have dv : x.2 ∣ d := by
    have : x.2 ∣ d * x.1 := ⟨n, by rw [Int.mul_comm d, h, Int.mul_comm]⟩
    exact int_cop gx this
  obtain ⟨g, hg⟩ := dv
  have hgp : 0 < g := by
    rcases Int.lt_or_le 0 g with h1 | h1
    · exact h1
    · have : x.2 * g ≤ 0 := Int.mul_nonpos_of_nonneg_of_nonpos (by omega) h1
      omega
  have hn : n = g * x.1 := by
    rw [hg] at h
    have h2 : x.2 * n = x.2 * (g * x.1) := by grind
    exact Int.eq_of_mul_eq_mul_left (by omega) h2
  have hG : (Int.gcd n d : Int) = g := by
    rw [hn, hg, Int.mul_comm x.2 g, Int.gcd_mul_left, gx]
    omega
  have hm := mkF_pos n d (by omega)
  rw [hG] at hm
  have e1 : (n.natAbs : Int) / g = (x.1.natAbs : Int) := by
    rw [hn, Int.natAbs_mul]
    have : ((g.natAbs * x.1.natAbs : Nat) : Int) = g * (x.1.natAbs : Int) := by rw [Int.natCast_mul]; congr 1; omega
    rw [this]
    exact Int.mul_ediv_cancel_left _ (by omega)
  have e2 : (d.natAbs : Int) / g = x.2 := by
    rw [show (d.natAbs : Int) = d by omega, hg]
    exact Int.mul_ediv_cancel _ (by omega)
  rw [e1, e2, if_neg (by omega)] at hm
  rw [hm, show decide (d < 0) = false by simp; omega]
  by_cases h0 : x.1 < 0
  · have : n < 0 := by rw [hn]; exact Int.mul_neg_of_pos_of_neg hgp h0
    rw [decide_eq_true this]
    simp only [Bool.true_bne, Bool.not_false, if_true]
    exact Prod.ext (Prod.ext (by simp only; omega) rfl) rfl
  · have : ¬ n < 0 := by rw [hn]; have := Int.mul_nonneg (a := g) (b := x.1) (by omega) (by omega); omega
    rw [decide_eq_false this]
    simp only [bne_self_eq_false, Bool.false_eq_true, if_false]
    exact Prod.ext (Prod.ext (by simp only; omega) rfl) rfl
theorem opF_of {x : Fr} {n d : Int} (hx : okF x.1 x.2 = true) (hd : 0 < d) (h : qF x = (n : Rat) / (d : Rat)) : opF n d true = (x, 0) := by
  have e : opF n d true = mkF n d := by unfold opF; rfl
  rw [e]
  refine mkF_of hx hd ?_
  have h1 := (okF_den hx).1
  have h2 := cast_ne (show d ≠ 0 by omega)
  unfold qF at h
  have : (x.1 : Rat) * (d : Rat) = (n : Rat) * (x.2 : Rat) := by grind
  exact_mod_cast this
theorem addF_of {a b x : Fr} (ha : okF a.1 a.2 = true) (hb : okF b.1 b.2 = true) (hx : okF x.1 x.2 = true) (h : qF x = qF a + qF b) : addF a.1 a.2 b.1 b.2 = (x, 0) := by
  unfold addF
  rw [ha, hb]
  refine opF_of hx (Int.mul_pos (okF_den ha).2 (okF_den hb).2) ?_
  rw [h]
  have h1 := (okF_den ha).1
  have h2 := (okF_den hb).1
  unfold qF
  simp only [Rat.intCast_mul, Rat.intCast_add]
  grind
theorem subF_of {a b x : Fr} (ha : okF a.1 a.2 = true) (hb : okF b.1 b.2 = true) (hx : okF x.1 x.2 = true) (h : qF x = qF a - qF b) : subF a.1 a.2 b.1 b.2 = (x, 0) := by
  unfold subF
  rw [ha, hb]
  refine opF_of hx (Int.mul_pos (okF_den ha).2 (okF_den hb).2) ?_
  rw [h]
  have h1 := (okF_den ha).1
  have h2 := (okF_den hb).1
  unfold qF
  simp only [Rat.intCast_mul, Rat.intCast_sub]
  grind
theorem mulF_of {a b x : Fr} (ha : okF a.1 a.2 = true) (hb : okF b.1 b.2 = true) (hx : okF x.1 x.2 = true) (h : qF x = qF a * qF b) : mulF a.1 a.2 b.1 b.2 = (x, 0) := by
  unfold mulF
  rw [ha, hb]
  refine opF_of hx (Int.mul_pos (okF_den ha).2 (okF_den hb).2) ?_
  rw [h]
  have h1 := (okF_den ha).1
  have h2 := (okF_den hb).1
  unfold qF
  simp only [Rat.intCast_mul]
  grind
/-- The fraction n / 24. -/
def r24 (n : Int) : Fr := (mkF n 24).1
theorem r24_ok {n : Int} (h : 0 ≤ n ∧ n ≤ 1000000000) : okF (r24 n).1 (r24 n).2 = true ∧ qF (r24 n) = (n : Rat) / 24 ∧ 0 ≤ (r24 n).1 := by
  obtain ⟨z, p0, ho, _⟩ := mkF_small (n := n) (d := 24) h (by omega)
  refine ⟨ho, ?_, p0⟩
  have := mkF_q (n := n) (d := 24) (by omega) z
  exact this
theorem add24 {x y : Int} (hx : 0 ≤ x) (hy : 0 ≤ y) (h : x + y ≤ 1000000000) : addF (r24 x).1 (r24 x).2 (r24 y).1 (r24 y).2 = (r24 (x + y), 0) := by
  have h1 := r24_ok (n := x) (by omega)
  have h2 := r24_ok (n := y) (by omega)
  have h3 := r24_ok (n := x + y) (by omega)
  refine addF_of h1.1 h2.1 h3.1 ?_
  rw [h1.2.1, h2.2.1, h3.2.1, Rat.intCast_add]
  grind
theorem sub24 {x y : Int} (hy : 0 ≤ y) (hx : y ≤ x) (h : x ≤ 1000000000) : subF (r24 x).1 (r24 x).2 (r24 y).1 (r24 y).2 = (r24 (x - y), 0) := by
  have h1 := r24_ok (n := x) (by omega)
  have h2 := r24_ok (n := y) (by omega)
  have h3 := r24_ok (n := x - y) (by omega)
  refine subF_of h1.1 h2.1 h3.1 ?_
  rw [h1.2.1, h2.2.1, h3.2.1, Rat.intCast_sub]
  grind
theorem mul24 {x s : Int} (hx : 0 ≤ x ∧ x ≤ 1000000) (hs : 1 ≤ s ∧ s ≤ 1000) : mulF (r24 x).1 (r24 x).2 s 1 = (r24 (x * s), 0) := by
  have hm : 0 ≤ x * s := Int.mul_nonneg hx.1 (by omega)
  have hm2 : x * s ≤ 1000000 * 1000 := Int.mul_le_mul hx.2 hs.2 (by omega) (by omega)
  have h1 := r24_ok (n := x) (by omega)
  have h3 := r24_ok (n := x * s) (by omega)
  refine mulF_of (b := (s, 1)) h1.1 (okF_int (n := s) (by omega)) h3.1 ?_
  rw [h1.2.1, h3.2.1, Rat.intCast_mul, qF_int]
  grind
theorem on24 {x y s p : Int} (hx : 0 ≤ x ∧ x ≤ y) (hy : y ≤ 1000000) (hs : 1 ≤ s ∧ s ≤ 1000) (hp : 0 ≤ p ∧ p + (y - x) * s ≤ 1000000000) : onF (r24 x) (r24 y) s (r24 p) = (r24 (p + (y - x) * s), 0) := by
  unfold onF
  have hm : 0 ≤ (y - x) * s := Int.mul_nonneg (by omega) (by omega)
  rw [sub24 (by omega) hx.2 (by omega)]
  simp only [if_true]
  rw [mul24 (by omega) hs]
  simp only [if_true]
  exact add24 hp.1 hm hp.2
/-! ### drawn beats -/
theorem r24_cross {x : Int} (h : 0 ≤ x ∧ x ≤ 1000000000) : (r24 x).1 * 24 = x * (r24 x).2 := (mkF_part (n := x) (d := 24) (by omega) (mkF_small h (by omega)).1).1
theorem r24_le {x c : Int} (h : 0 ≤ x ∧ x ≤ 1000000000) (hc : x ≤ 24 * c) : (r24 x).1 ≤ c * (r24 x).2 := by
  have e := r24_cross h
  have d := (okF_den (r24_ok h).1).2
  have : x * (r24 x).2 ≤ 24 * c * (r24 x).2 := Int.mul_le_mul_of_nonneg_right hc (by omega)
  rw [← e, Int.mul_assoc] at this
  omega
theorem r24_lt {x y : Int} (hx : 0 ≤ x) (h : x < y) (hy : y ≤ 1000000000) : cmpB (r24 x) (r24 y) < 0 := by
  have h1 := r24_ok (n := x) (by omega)
  have h2 := r24_ok (n := y) (by omega)
  rw [qF_le (okF_den h1.1).2 (okF_den h2.1).2, h1.2.1, h2.2.1]
  have : (x : Rat) < (y : Rat) := by exact_mod_cast h
  grind
theorem r24_zero : r24 0 = (0, 1) := by unfold r24; rw [mkF_zero (by omega)]
theorem r24_half : r24 12 = (1, 2) := by
  have h := r24_ok (n := 12) (by omega)
  refine qF_inj h.1 (show okF 1 2 = true by decide) ?_
  rw [h.2.1]
  unfold qF
  have e1 : ((12 : Int) : Rat) = 12 := rfl
  have e2 : ((1 : Int) : Rat) = 1 := rfl
  have e3 : ((2 : Int) : Rat) = 2 := rfl
  simp only [e1, e2, e3]
  grind
theorem beat24 {s : Src} {m : Int} (h : okS s m) {most : Int} (hm : 0 ≤ most ∧ most ≤ 1000) : ∃ M, (0 ≤ M ∧ M ≤ 24 * most) ∧ (beatS s most).1 = r24 M := by
  have hd := amongS_mem h beatL (by decide)
  have hq := amongS_ok h beatL
  have hp := pickS_bd hq (most * (amongS s beatL).1 + 1)
  have ho := (beatS_bd h hm).1
  have eB : (beatS s most).1 = (mkF (pickS (amongS s beatL).2 (most * (amongS s beatL).1 + 1)).1 (amongS s beatL).1).1 := rfl
  rw [eB] at ho ⊢
  generalize (pickS (amongS s beatL).2 (most * (amongS s beatL).1 + 1)).1 = n at *
  generalize (amongS s beatL).1 = d at *
  have hc : ∃ c : Int, d * c = 24 ∧ 0 < c ∧ 1 ≤ d ∧ d ≤ 8 := by
    simp only [beatL, List.mem_cons, List.not_mem_nil, or_false] at hd
    rcases hd with h | h | h | h | h | h | h | h | h <;> subst h
    · exact ⟨24, by decide, by decide, by decide, by decide⟩
    · exact ⟨24, by decide, by decide, by decide, by decide⟩
    · exact ⟨12, by decide, by decide, by decide, by decide⟩
    · exact ⟨12, by decide, by decide, by decide, by decide⟩
    · exact ⟨8, by decide, by decide, by decide, by decide⟩
    · exact ⟨6, by decide, by decide, by decide, by decide⟩
    · exact ⟨6, by decide, by decide, by decide, by decide⟩
    · exact ⟨4, by decide, by decide, by decide, by decide⟩
    · exact ⟨3, by decide, by decide, by decide, by decide⟩
  obtain ⟨c, e, c0, d1, d8⟩ := hc
  have m0 : 0 ≤ most * d := Int.mul_nonneg hm.1 (by omega)
  have m1 : most * d ≤ 1000 * d := Int.mul_le_mul_of_nonneg_right hm.2 (by omega)
  have hn := hp.2.1 (by omega)
  have hM : n * c ≤ 24 * most := by
    have : n * c ≤ most * d * c := Int.mul_le_mul_of_nonneg_right (by omega) (by omega)
    rw [Int.mul_assoc, e] at this
    omega
  have hM0 : 0 ≤ n * c := Int.mul_nonneg hp.1 (by omega)
  refine ⟨n * c, ⟨hM0, hM⟩, ?_⟩
  obtain ⟨z, _, _, _⟩ := mkF_small (n := n) (d := d) ⟨hp.1, by omega⟩ ⟨by omega, by omega⟩
  have hr := r24_ok (n := n * c) (by omega)
  refine qF_inj ho hr.1 ?_
  rw [mkF_q (by omega) z, hr.2.1, Rat.intCast_mul]
  have e' : (d : Rat) * (c : Rat) = 24 := by exact_mod_cast e
  have hd0 := cast_ne (show d ≠ 0 by omega)
  have hc0 := cast_ne (show c ≠ 0 by omega)
  rw [← e']
  grind
end Go.Proofs.YtkeckmdmmbeaiaaGreatDoor
namespace Go.Proofs.YtkeckmdmmbeaiaaGreatDoor
open Go.RowKit Sx
theorem onF_q {b u p : Fr} {s : Int} (hb : okF b.1 b.2 = true) (hu : okF u.1 u.2 = true) (hp : okF p.1 p.2 = true) (hs : 1 ≤ s ∧ s ≤ 1000) (h : (onF b u s p).2 = 0) :
    qF (onF b u s p).1 = qF p + (qF u - qF b) * (s : Rat) := by
  have h1 := subF_ok hu hb
  unfold onF at *
  split at h
  · rename_i hd
    have h1 := h1.resolve_right (by omega)
    have h2 := mulF_ok h1.2 (okF_int (n := s) (by omega))
    rw [if_pos hd]
    split at h
    · rename_i hm
      have h2 := h2.resolve_right (by omega)
      rw [if_pos hm]
      rw [addF_q hp h2.2 h]
      have e2 := mulF_q (b := (s, 1)) h1.2 (okF_int (n := s) (by omega)) hm
      rw [e2, subF_q hu hb hd, qF_int]
    · rename_i hm
      exact absurd h hm
  · rename_i hd
    exact absurd h hd
theorem cmp_q {a b : Fr} (ha : okF a.1 a.2 = true) (hb : okF b.1 b.2 = true) : 0 < cmpB a b ↔ qF b < qF a := by
  rw [← qF_le (okF_den hb).2 (okF_den ha).2, cmpB_gt, cmpB_lt]
theorem qF_nonneg {a : Fr} (h : okF a.1 a.2 = true) (h0 : 0 ≤ a.1) : 0 ≤ qF a := by
  have h1 := cast_pos (okF_den h).2
  have h2 : (0 : Rat) ≤ (a.1 : Rat) := by exact_mod_cast h0
  unfold qF
  rw [Rat.div_def]
  exact Rat.mul_nonneg h2 (Rat.le_of_lt (Rat.inv_pos.mpr h1))
end Go.Proofs.YtkeckmdmmbeaiaaGreatDoor
namespace Go.Proofs.YtkeckmdmmbeaiaaGreatDoor
open Go.RowKit Sx
theorem rlt (x y : Rat) : x < y ∨ y ≤ x := (Classical.em (x < y)).imp id Rat.not_lt.mp
theorem divF_of {a b x : Fr} (ha : okF a.1 a.2 = true) (hb : okF b.1 b.2 = true) (hx : okF x.1 x.2 = true) (h0 : 0 < b.1) (h : qF x * qF b = qF a) : divF a.1 a.2 b.1 b.2 = (x, 0) := by
  unfold divF
  rw [if_pos ⟨ha, hb⟩, if_neg (by omega)]
  refine mkF_of hx (Int.mul_pos (okF_den ha).2 h0) ?_
  have h1 := (okF_den ha).1
  have h2 := (okF_den hb).1
  have h3 := (okF_den hx).1
  have h4 := cast_ne (show b.1 ≠ 0 by omega)
  unfold qF at h
  have : (x.1 : Rat) * ((a.2 : Rat) * (b.1 : Rat)) = ((a.1 : Rat) * (b.2 : Rat)) * (x.2 : Rat) := by grind
  exact_mod_cast this
section
variable {ts : List tTempo.den}
def tT (ts : List tTempo.den) (k : Nat) : Rat := qF (tAt ts k).1
def tC (ts : List tTempo.den) (k : Nat) : Rat := qF (chn ts k).1
def tS (ts : List tTempo.den) (k : Nat) : Rat := ((tAt ts k).2 : Rat)
theorem tm_good (h : tmapF ts = true) {k : Nat} (hk : k < ts.length) : okF (tAt ts k).1.1 (tAt ts k).1.2 = true ∧ 0 ≤ (tAt ts k).1.1 ∧ (1 ≤ (tAt ts k).2 ∧ (tAt ts k).2 ≤ 1000) := goodT_ok ((tmap_spec h).2.2.1 k hk).1
theorem tS_pos (h : tmapF ts = true) {k : Nat} (hk : k < ts.length) : 0 < tS ts k := cast_pos (by have := tm_good h hk; omega)
theorem chn_fine (h : tmapF ts = true) {k : Nat} (hk : k < ts.length) : (chn ts k).2 = 0 ∧ okF (chn ts k).1.1 (chn ts k).1.2 = true :=
  (chn_ok (tmap_spec h).2.2.1 k hk).resolve_right (by rw [(tmap_spec h).2.2.2.1 k hk]; omega)
theorem tT_lt (h : tmapF ts = true) {k : Nat} (hk : k + 1 < ts.length) : tT ts k < tT ts (k + 1) := by
  have g := ((tmap_spec h).2.2.1 (k + 1) hk).2.resolve_left (by omega)
  rw [Nat.add_sub_cancel] at g
  exact (qF_le (okF_den (tm_good h (show k < ts.length by omega)).1).2 (okF_den (tm_good h hk).1).2).1 g
theorem tC_step (h : tmapF ts = true) {k : Nat} (hk : k + 1 < ts.length) : tC ts (k + 1) = tC ts k + (tT ts (k + 1) - tT ts k) * tS ts k := by
  have h0 := chn_fine h (show k < ts.length by omega)
  have h1 := chn_fine h hk
  have e : chn ts (k + 1) = onF (tAt ts k).1 (tAt ts (k + 1)).1 (tAt ts k).2 (chn ts k).1 := by
    rw [chn, if_pos h0.1]
  have g0 := tm_good h (show k < ts.length by omega)
  unfold tC
  rw [e] at h1 ⊢
  exact onF_q g0.1 (tm_good h hk).1 h0.2 g0.2.2 h1.1
theorem tC_lt (h : tmapF ts = true) {k : Nat} (hk : k + 1 < ts.length) : tC ts k < tC ts (k + 1) := by
  have h1 := tC_step h hk
  have h2 := tT_lt h hk
  have h3 := tS_pos h (show k < ts.length by omega)
  have h4 : 0 < (tT ts (k + 1) - tT ts k) * tS ts k := Rat.mul_pos (by grind) h3
  grind
theorem tC_le (h : tmapF ts = true) : ∀ (d k : Nat), k + d < ts.length → tC ts k ≤ tC ts (k + d)
  | 0, k, _ => Rat.le_refl
  | d + 1, k, hk => by
    have h1 := tC_le h d k (by omega)
    have h2 := tC_lt h (k := k + d) (by omega)
    have e : k + (d + 1) = k + d + 1 := by omega
    rw [e]
    grind
theorem tT_le (h : tmapF ts = true) : ∀ (d k : Nat), k + d < ts.length → tT ts k ≤ tT ts (k + d)
  | 0, k, _ => Rat.le_refl
  | d + 1, k, hk => by
    have h1 := tT_le h d k (by omega)
    have h2 := tT_lt h (k := k + d) (by omega)
    have e : k + (d + 1) = k + d + 1 := by omega
    rw [e]
    grind
/-- Where a beat lies, and its position. -/
theorem pos_at {a : Fr} (h : (posF ts a).2 = 0) : tmapF ts = true ∧ okF a.1 a.2 = true ∧ 0 ≤ a.1 ∧ ∃ k, k < ts.length ∧ tT ts k ≤ qF a ∧ (k + 1 < ts.length → qF a < tT ts (k + 1)) ∧
    okF (posF ts a).1.1 (posF ts a).1.2 = true ∧ qF (posF ts a).1 = tC ts k + (qF a - tT ts k) * tS ts k ∧ posF ts a = onF (tAt ts k).1 a (tAt ts k).2 (chn ts k).1 := by
  unfold posF at h ⊢
  split at h
  · rename_i h0
    rw [if_pos h0]
    split at h
    · rename_i h2
      rw [if_pos h2]
      obtain ⟨g1, g2, g3⟩ := askF_zero h0
      obtain ⟨p1, p2⟩ := pos_both h0
      have p2 := p2.resolve_right (by omega)
      have hl := idxF_last (tmap_spec g1).2.2.1 (tmap_spec g1).1.1 (tmap_spec g1).2.2.2.2 (okF_bd g2).1.1 g3
      have hk := hl.lt
      have hc := chn_fine g1 hk
      have g := tm_good g1 hk
      have e2 : atF (psGo ts ts.length 0).1 (idxF ts a) = (chn ts (idxF ts a)).1 := ((tmap_list g1).2 _ hk).1
      rw [e2] at p1
      refine ⟨g1, g2, g3, idxF ts a, hk, ?_, fun hk1 => ?_, p2.2, ?_, p1⟩
      · have := hl.le
        have h3 : ¬ 0 < cmpB (tAt ts (idxF ts a)).1 a := by omega
        rw [cmp_q g.1 g2] at h3
        exact Rat.not_lt.mp h3
      · have := hl.gt.resolve_left (by omega)
        exact (cmp_q (tm_good g1 hk1).1 g2).1 this
      · rw [p1] at p2 ⊢
        exact onF_q g.1 g2 hc.2 g.2.2 p2.1
    · simp at h
  · rename_i h0
    exact absurd h h0
theorem pos_mono {a b : Fr} (ha : (posF ts a).2 = 0) (hb : (posF ts b).2 = 0) (h : qF a < qF b) : qF (posF ts a).1 < qF (posF ts b).1 := by
  obtain ⟨t1, _, _, k, k1, k2, k3, _, k5, _⟩ := pos_at ha
  obtain ⟨_, _, _, l, l1, l2, l3, _, l5, _⟩ := pos_at hb
  rw [k5, l5]
  rcases Nat.lt_trichotomy k l with hkl | hkl | hkl
  · have g1 := k3 (by omega)
    have g2 := tC_step t1 (k := k) (by omega)
    have g3 := tC_le t1 (l - (k + 1)) (k + 1) (by omega)
    rw [show k + 1 + (l - (k + 1)) = l by omega] at g3
    have s1 := tS_pos t1 k1
    have s2 := tS_pos t1 l1
    have m1 : 0 < (tT ts (k + 1) - qF a) * tS ts k := Rat.mul_pos (by grind) s1
    have m2 : 0 ≤ (qF b - tT ts l) * tS ts l := Rat.mul_nonneg (by grind) (Rat.le_of_lt s2)
    grind
  · subst hkl
    have m1 : 0 < (qF b - qF a) * tS ts k := Rat.mul_pos (by grind) (tS_pos t1 k1)
    grind
  · have g1 := l3 (by omega)
    have g2 := tT_le t1 (k - (l + 1)) (l + 1) (by omega)
    rw [show l + 1 + (k - (l + 1)) = k by omega] at g2
    grind
theorem lst_at {key : Nat → Fr} {b : Fr} {N K : Nat} (h1 : cmpB (key K) b ≤ 0) (h2 : ∀ j, K < j → j < N → ¬ cmpB (key j) b ≤ 0) (hK : K < N) : ∀ n i k, i + n = N → (i ≤ K ∨ k = K) → lstGo key b n i k = K
  | 0, i, k, hi, hk => by
    rcases hk with h | h
    · omega
    · exact h
  | n + 1, i, k, hi, hk => by
    unfold lstGo
    refine lst_at h1 h2 hK n (i + 1) _ (by omega) ?_
    rcases Nat.lt_trichotomy i K with h | h | h
    · exact .inl (by omega)
    · right; rw [h, if_pos h1]
    · right
      rw [if_neg (h2 i h (by omega))]
      exact hk.resolve_left (by omega)
theorem pos_back {a : Fr} (h : (posF ts a).2 = 0) (hm : a.1 ≤ 1000 * a.2) : bopF ts (posF ts a).1 = (a, 0) := by
  obtain ⟨t1, g2, g3, k, k1, k2, k3, kok, k5, k6⟩ := pos_at h
  have hc := chn_fine t1 k1
  have g := tm_good t1 k1
  have hs := tS_pos t1 k1
  have m0 : 0 ≤ (qF a - tT ts k) * tS ts k := Rat.mul_nonneg (by grind) (Rat.le_of_lt hs)
  have hx0 : tC ts k ≤ qF (posF ts a).1 := by grind
  have hlst : lstF ts (posF ts a).1 = k := by
    refine lst_at (key := fun j => (chn ts j).1) (N := ts.length) ?_ ?_ k1 _ 0 0 (by omega) (.inl (by omega))
    · have := mt (cmp_q hc.2 kok).1 (Rat.not_lt.mpr hx0)
      omega
    · intro j j1 j2
      have hj := chn_fine t1 j2
      have e1 := k3 (by omega)
      have e2 := tC_step t1 (k := k) (by omega)
      have e3 := tC_le t1 (j - (k + 1)) (k + 1) (by omega)
      rw [show k + 1 + (j - (k + 1)) = j by omega] at e3
      have m1 : 0 < (tT ts (k + 1) - qF a) * tS ts k := Rat.mul_pos (by grind) hs
      have e4 : qF (posF ts a).1 < tC ts j := by grind
      have := (cmp_q hj.2 kok).2 e4
      show ¬ cmpB (chn ts j).1 (posF ts a).1 ≤ 0
      omega
  have hc0 : 0 ≤ tC ts k := by
    have := tC_le t1 k 0 (by omega)
    rw [Nat.zero_add] at this
    have e : tC ts 0 = 0 := by
      show qF (0, 1) = 0
      unfold qF
      show ((0 : Int) : Rat) / ((1 : Int) : Rat) = 0
      have e0 : ((0 : Int) : Rat) = 0 := rfl
      rw [e0]; grind
    rw [e] at this; exact this
  have hneg : ¬ (posF ts a).1.1 < 0 := by
    intro hn
    have h1 := cast_pos (okF_den kok).2
    have h2 : ((posF ts a).1.1 : Rat) < 0 := by exact_mod_cast hn
    have h3 : qF (posF ts a).1 < 0 := by
      unfold qF
      have : ((posF ts a).1.1 : Rat) / ((posF ts a).1.2 : Rat) * ((posF ts a).1.2 : Rat) = (posF ts a).1.1 := by
        have := (okF_den kok).1; grind
      rcases rlt (((posF ts a).1.1 : Rat) / ((posF ts a).1.2 : Rat)) 0 with h | h
      · exact h
      · have := Rat.mul_nonneg h (Rat.le_of_lt h1)
        grind
    grind
  unfold bopF
  rw [if_pos ⟨t1, kok⟩, if_neg hneg, hlst]
  have hcode : (onF (tAt ts k).1 a (tAt ts k).2 (chn ts k).1).2 = 0 := by rw [← k6]; exact h
  have hx := k5
  rw [k6] at hx kok ⊢
  unfold onF at hcode
  have s1 := subF_ok g2 g.1
  split at hcode
  · rename_i c1
    have s1 := s1.resolve_right (by omega)
    have s2 := mulF_ok s1.2 (okF_int (n := (tAt ts k).2) (by omega))
    split at hcode
    · rename_i c2
      have s2 := s2.resolve_right (by omega)
      have q1 := subF_q g2 g.1 c1
      have q2 := mulF_q (b := ((tAt ts k).2, 1)) s1.2 (okF_int (n := (tAt ts k).2) (by omega)) c2
      rw [qF_int] at q2
      simp only at q2 s2 s1
      have b1 := subF_of kok hc.2 s2.2 (by rw [hx, q2, q1]; unfold tC tT tS; grind)
      have b2 := divF_of (b := ((tAt ts k).2, 1)) s2.2 (okF_int (n := (tAt ts k).2) (by omega)) s1.2 (by show 0 < (tAt ts k).2; omega) (by rw [qF_int]; exact q2.symm)
      have b3 := addF_of g.1 s1.2 g2 (by rw [q1]; grind)
      unfold backF
      simp only at b2
      rw [b1]
      simp only
      rw [b2]
      simp only
      rw [b3]
      simp only [if_true, true_and]
      have hbt : beatF a.1 a.2 = true := by simp [beatF, g2, g3, hm]
      rw [if_pos hbt]
    · rename_i c2; exact absurd hcode c2
  · rename_i c1; exact absurd hcode c1
end
def beatOk (b : Fr) : Prop := okF b.1 b.2 = true ∧ 0 ≤ b.1 ∧ b.1 ≤ 1000 * b.2
theorem ask_ok {ts : List tTempo.den} {a : Fr} (h : tmapF ts = true) (ha : beatOk a) : askF ts a = 0 := by
  unfold askF
  rw [if_pos ⟨h, ha.1⟩, if_pos (by simp [beatF, ha.1, ha.2.1, ha.2.2])]
theorem pos_code {ts : List tTempo.den} {a : Fr} (h : tmapF ts = true) (ha : beatOk a) : (posF ts a).2 = 0 ∨ (posF ts a).2 = 2 := by
  unfold posF
  rw [if_pos (ask_ok h ha)]
  split
  · rename_i h0; exact .inl h0
  · exact .inr rfl
theorem cmp_pos {ts : List tTempo.den} {a b : Fr} (ha : (posF ts a).2 = 0) (hb : (posF ts b).2 = 0) : cmpB a b = cmpB (posF ts a).1 (posF ts b).1 := by
  obtain ⟨_, a2, _, _, _, _, _, a4, _⟩ := pos_at ha
  obtain ⟨_, b2, _, _, _, _, _, b4, _⟩ := pos_at hb
  have key : ∀ x y : Fr, okF x.1 x.2 = true → okF y.1 y.2 = true → (cmpB x y < 0 ↔ qF x < qF y) ∧ (0 < cmpB x y ↔ qF y < qF x) := fun x y hx hy => ⟨qF_le (okF_den hx).2 (okF_den hy).2, cmp_q hx hy⟩
  have vals : ∀ x y : Fr, cmpB x y = -1 ∨ cmpB x y = 0 ∨ cmpB x y = 1 := fun x y => by
    unfold cmpB cmpF
    repeat' split
    all_goals omega
  have k1 := key a b a2 b2
  have k2 := key (posF ts a).1 (posF ts b).1 a4 b4
  have v1 := vals a b
  have v2 := vals (posF ts a).1 (posF ts b).1
  have m1 := pos_mono ha hb
  have m2 := pos_mono hb ha
  have same : qF a = qF b → qF (posF ts a).1 = qF (posF ts b).1 := fun e => by
    have := qF_inj a2 b2 e
    rw [this]
  rcases rlt (qF a) (qF b) with h | h
  · have e1 := k1.1.2 h
    have e2 := k2.1.2 (m1 h)
    omega
  · rcases rlt (qF b) (qF a) with h' | h'
    · have e1 := k1.2.2 h'
      have e2 := k2.2.2 (m2 h')
      omega
    · have e := Rat.le_antisymm h' h
      have e' := same e
      have n1 : ¬ cmpB a b < 0 := fun hh => by have := k1.1.1 hh; grind
      have n2 : ¬ 0 < cmpB a b := fun hh => by have := k1.2.1 hh; grind
      have n3 : ¬ cmpB (posF ts a).1 (posF ts b).1 < 0 := fun hh => by have := k2.1.1 hh; grind
      have n4 : ¬ 0 < cmpB (posF ts a).1 (posF ts b).1 := fun hh => by have := k2.2.1 hh; grind
      omega
end Go.Proofs.YtkeckmdmmbeaiaaGreatDoor
namespace Go.Proofs.YtkeckmdmmbeaiaaGreatDoor
open Go.RowKit Sx
theorem step24 {s : Src} {m : Int} (h : okS s m) : ∃ M, (1 ≤ M ∧ M ≤ 72) ∧ (stepS s).1 = r24 M := by
  obtain ⟨M, hM, e⟩ := beat24 h (most := 3) (by omega)
  have eS : (stepS s).1 = if (beatS s 3).1.1 = 0 then (1, 2) else (beatS s 3).1 := rfl
  rw [eS]
  split
  · exact ⟨12, by omega, r24_half.symm⟩
  · rename_i hz
    refine ⟨M, ⟨?_, by omega⟩, e⟩
    rcases Int.lt_or_le 0 M with h1 | h1
    · omega
    · have : M = 0 := by omega
      rw [e, this, r24_zero] at hz
      exact absurd rfl hz
/-- Tempos at multiples of 1/24 that grow, from one on. -/
def G24 : List tTempo.den → Int → Prop
  | [], _ => True
  | x :: r, N => x.1 = r24 N ∧ (1 ≤ x.2 ∧ x.2 ≤ 1000) ∧ ∃ M, (1 ≤ M ∧ M ≤ 72) ∧ G24 r (N + M)
theorem drawT_g : ∀ (n : Nat) {s : Src} {m : Int} (N : Int), okS s m → 0 ≤ N → N + 72 * n ≤ 1000000 → (drawT n s (r24 N)).1.length = n ∧ G24 (drawT n s (r24 N)).1 N
  | 0, _, _, _, _, _, _ => ⟨rfl, trivial⟩
  | n + 1, s, m, N, h, h0, hN => by
    have hs := amongS_ok h sampL
    have hx := amongS_mem h sampL (by decide)
    obtain ⟨M, hM, e⟩ := step24 hs
    have hadd := add24 (x := N) (y := M) h0 (by omega) (by omega)
    have hk := stepS_ok hs
    have ih := drawT_g n (N + M) hk (by omega) (by omega)
    unfold drawT
    rw [e, hadd]
    refine ⟨by rw [List.length_cons, ih.1], rfl, ?_, M, hM, ih.2⟩
    show 1 ≤ (amongS s sampL).1 ∧ (amongS s sampL).1 ≤ 1000
    generalize (amongS s sampL).1 = d at hx ⊢
    simp only [sampL, List.mem_cons, List.not_mem_nil, or_false] at hx
    omega
theorem G24_fn : ∀ (l : List tTempo.den) (N : Int), G24 l N → ∃ X : Nat → Int, X 0 = N ∧ ∀ k, k < l.length → (tAt l k).1 = r24 (X k) ∧ (1 ≤ (tAt l k).2 ∧ (tAt l k).2 ≤ 1000) ∧ (X k + 1 ≤ X (k + 1) ∧ X (k + 1) ≤ X k + 72)
  | [], N, _ => ⟨fun _ => N, rfl, fun k h => absurd h (by simp)⟩
  | x :: r, N, ⟨e, hs, M, hM, hr⟩ => by
    obtain ⟨X, x0, hX⟩ := G24_fn r (N + M) hr
    refine ⟨fun k => match k with | 0 => N | k + 1 => X k, rfl, fun k hk => ?_⟩
    cases k with
    | zero => exact ⟨e, hs, by simp only [x0]; omega⟩
    | succ k => exact hX k (by simpa using hk)
theorem X_bd {X : Nat → Int} {n : Nat} (x0 : X 0 = 0) (h : ∀ k, k < n → X k + 1 ≤ X (k + 1) ∧ X (k + 1) ≤ X k + 72) : ∀ k : Nat, k ≤ n → 0 ≤ X k ∧ X k ≤ 72 * k
  | 0, _ => by rw [x0]; omega
  | k + 1, hk => by
    have := X_bd x0 h k (by omega)
    have := h k (by omega)
    omega
theorem chn24 {l : List tTempo.den} {X : Nat → Int} (x0 : X 0 = 0) (hl : l.length ≤ 8) (hX : ∀ k, k < l.length → (tAt l k).1 = r24 (X k) ∧ (1 ≤ (tAt l k).2 ∧ (tAt l k).2 ≤ 1000) ∧ (X k + 1 ≤ X (k + 1) ∧ X (k + 1) ≤ X k + 72)) :
    ∀ k : Nat, k < l.length → ∃ p : Int, (0 ≤ p ∧ p ≤ 72000 * k) ∧ chn l k = (r24 p, 0)
  | 0, _ => ⟨0, by omega, by unfold chn; rw [r24_zero]⟩
  | k + 1, hk => by
    obtain ⟨p, hp, e⟩ := chn24 x0 hl hX k (by omega)
    have h1 := hX k (by omega)
    have h2 := hX (k + 1) hk
    have hb := X_bd x0 (fun k hk => (hX k hk).2.2) k (by omega)
    have hm : 0 ≤ (X (k + 1) - X k) * (tAt l k).2 := Int.mul_nonneg (by omega) (by omega)
    have hm2 : (X (k + 1) - X k) * (tAt l k).2 ≤ 72 * 1000 := Int.mul_le_mul (by omega) h1.2.1.2 (by omega) (by omega)
    refine ⟨p + (X (k + 1) - X k) * (tAt l k).2, by omega, ?_⟩
    unfold chn
    rw [e]
    simp only [if_true]
    rw [h1.1, h2.1]
    exact on24 (by omega) (by omega) h1.2.1 (by omega)
theorem tmap_of_g {l : List tTempo.den} (h : G24 l 0) (hl : 1 ≤ l.length ∧ l.length ≤ 8) : tmapF l = true := by
  obtain ⟨X, x0, hX⟩ := G24_fn l 0 h
  have hc := chn24 x0 hl.2 hX
  have hb := X_bd x0 fun k hk => (hX k hk).2.2
  simp only [tmapF, Bool.and_eq_true, decide_eq_true_eq]
  refine ⟨hl, ?_⟩
  rw [psGo_true]
  intro k _ hk
  have h1 := hX k (by omega)
  have b1 := hb k (by omega)
  have hr := r24_ok (n := X k) (by omega)
  obtain ⟨p, _, ep⟩ := hc k (by omega)
  simp only [okAt, goodT, beatF, Bool.and_eq_true, decide_eq_true_eq, inB_iff, h1.1, ep, and_true]
  refine ⟨⟨⟨hr.1, hr.2.2, r24_le (by omega) (by omega)⟩, h1.2.1⟩, ?_, ?_⟩
  · intro hk0
    rw [hk0, x0, r24_zero]
  · rcases Nat.eq_zero_or_pos k with h0 | h0
    · exact .inl h0
    · right
      have h2 := hX (k - 1) (by omega)
      have b2 := hb (k - 1) (by omega)
      rw [show k - 1 + 1 = k by omega] at h2
      rw [h2.1]
      exact r24_lt b2.1 (by omega) (by omega)
theorem tmapS_valid {s : Src} {m : Int} (h : okS s m) : tmapF (tmapS s).1 = true := by
  have hb := pickS_bd h 4
  have h1 := hb.2.1 (by omega)
  have hq := pickS_ok h 4
  have g := drawT_g (1 + (pickS s 4).1).toNat 0 hq (by omega) (by omega)
  rw [r24_zero] at g
  exact tmap_of_g g.2 (by have g1 := g.1; have e : (tmapS s).1.length = (1 + (pickS s 4).1).toNat := g1; rw [e]; omega)
theorem beat_valid {s : Src} {m : Int} (h : okS s m) {most : Int} (hm : 0 ≤ most ∧ most ≤ 1000) : okF (beatS s most).1.1 (beatS s most).1.2 = true ∧ 0 ≤ (beatS s most).1.1 ∧ (beatS s most).1.1 ≤ 1000 * (beatS s most).1.2 := by
  have hb := beatS_bd h hm
  have hd := okF_bd hb.1
  have : most * (beatS s most).1.2 ≤ 1000 * (beatS s most).1.2 := Int.mul_le_mul_of_nonneg_right hm.2 (by omega)
  exact ⟨hb.1, hb.2.1, by omega⟩
end Go.Proofs.YtkeckmdmmbeaiaaGreatDoor
namespace Go.Proofs.YtkeckmdmmbeaiaaGreatDoor
open Go.RowKit Sx
set_option maxRecDepth 100000
set_option maxHeartbeats 1000000
def C_TtB : FuncId → Option Ct := addC 8 ct_iReadTempos (addC 19 ct_iTempoText (addC 13 ct_A2Tempos (addC 12 ct_a2Long C_Gc)))
theorem C_TtB_ok : COk Tryz.prog C_TtB := addC_ok (addC_ok (addC_ok (addC_ok C_Gc_ok sat_a2Long) sat_A2Tempos) sat_iTempoText) sat_iReadTempos
def ct_sCompareFrac : Ct := ctOf [.s tFrac, .s tFrac] (fun _ => .tt) (fun (((a : Int), (b : Int)), ((c : Int), (d : Int)), _) => .int .i64 (if okF a b = true ∧ okF c d = true then cmpF a b c d else 0))
set_option maxHeartbeats 1000000 in
theorem sat_sCompareFrac : Sat Tryz.prog 17 ct_sCompareFrac := by
  refine sat_typed (C := C_TtB) (L := noL) (wr := false) mixedOk Tryz.func17 C_TtB_ok (loops0 (by kernel_rfl)) (fun _ => by first | rfl | (simp [ownsOf, ownsOf.ownsL, enc, encV, encS])) fun x hp => ?_
  obtain ⟨⟨(a : Int), (b : Int)⟩, ⟨(c : Int), (d : Int)⟩, _⟩ := x
  clear hp
  have htree : exFunc Tryz.prog C_TtB false noL Tryz.f17 (encA [.s tFrac, .s tFrac] ((a, b), (c, d), ())) = .ite (!okF a b) (.leaf [.int .i64 ((0 : Int))]) (.ite (!okF c d) (.leaf [.int .i64 ((0 : Int))]) (.need ((((1 : Int) ≤ b ∧ b ≤ (1000000 : Int)) ∧ (-1000000000 : Int) ≤ a ∧ a ≤ (1000000000 : Int)) ∧ ((1 : Int) ≤ d ∧ d ≤ (1000000 : Int)) ∧ (-1000000000 : Int) ≤ c ∧ c ≤ (1000000000 : Int)) (.leaf [.int .i64 (cmpF a b c d)]))) := by kernel_rfl
  refine (congrArg (Tree.ok _) htree).mpr ?_
  clear htree
  have h1 := @okF_bd a b
  have h2 := @okF_bd c d
  simp only [Tree.ok, tyd_inj, packAV, AV.same, AV.same.sameL, encV, encS, enc, inK, Nd.ok, List.headD_cons, List.cons_append, List.nil_append, List.append_nil, true_and, and_true, Bool.true_and, Bool.and_true]
  repeat' first | apply And.intro | intro _
  all_goals first | omega | (simp_all; done) | (simp_all; omega) | grind
def C_Tt_1 : FuncId → Option Ct := addC 17 ct_sCompareFrac C_TtB
theorem C_Tt_1_ok : COk Tryz.prog C_Tt_1 := addC_ok C_TtB_ok sat_sCompareFrac
def ct_sFloorFrac : Ct := ctOf [.s tFrac] (fun _ => .tt) (fun (((u : Int), (v : Int)), _) => .int .i64 (if okF u v = true then u / v else 0))
set_option maxHeartbeats 1000000 in
theorem sat_sFloorFrac : Sat Tryz.prog 18 ct_sFloorFrac := by
  refine sat_typed (C := C_Tt_1) (L := noL) (wr := false) mixedOk Tryz.func18 C_Tt_1_ok (loops0 (by kernel_rfl)) (fun _ => by first | rfl | (simp [ownsOf, ownsOf.ownsL, enc, encV, encS])) fun x hp => ?_
  obtain ⟨⟨(u : Int), (v : Int)⟩, _⟩ := x
  clear hp
  have htree : exFunc Tryz.prog C_Tt_1 false noL Tryz.f18 (encA [.s tFrac] ((u, v), ())) = .ite (!okF u v) (.leaf [.int .i64 ((0 : Int))]) (.need ((1 : Int) ≤ v ∧ (-9223372036854775807 : Int) ≤ u ∧ u ≤ (9223372036854775807 : Int)) (.leaf [.int .i64 (u / v)])) := by kernel_rfl
  refine (congrArg (Tree.ok _) htree).mpr ?_
  clear htree
  cases hk : okF u v
  · simp [Tree.ok, tyd_inj, packAV, AV.same, AV.same.sameL, encV, encS, enc, inK, Nd.ok, List.headD_cons, List.cons_append, List.nil_append, List.append_nil, true_and, and_true, Bool.true_and, Bool.and_true, hk]
  have hb := okF_bd hk
  simp only [Tree.ok, tyd_inj, packAV, AV.same, AV.same.sameL, encV, encS, enc, inK, Nd.ok, List.headD_cons, List.cons_append, List.nil_append, List.append_nil, true_and, and_true, Bool.true_and, Bool.and_true, hk, if_true, Bool.not_true, Bool.false_eq_true]
  repeat' first | apply And.intro | intro _
  all_goals first | omega | trivial | rfl | contradiction
def C_Tt_2 : FuncId → Option Ct := addC 18 ct_sFloorFrac C_Tt_1
theorem C_Tt_2_ok : COk Tryz.prog C_Tt_2 := addC_ok C_Tt_1_ok sat_sFloorFrac
theorem A2T_valid {l : List Int} (h : bytesOk l) : tmapF (A2T l).1 = true ∧ beatOk (A2T l).2.1 ∧ beatOk (A2T l).2.2 := by
  have h0 := from_ok h
  have h1 := tmapS_ok h0
  have h2 := beatS_ok h1 10
  exact ⟨tmapS_valid h0, beat_valid h1 (by omega), beat_valid h2 (by omega)⟩
theorem tempoT_len {ts : List tTempo.den} (h : tmapF ts = true) : (tempoT ts).length ≤ 1048576 := by
  have hl := (tmap_spec h).1
  have hj := jn_len (wordsT ts) 70 fun w hw => by
    obtain ⟨x, hx, rfl⟩ := List.mem_map.1 hw
    exact wordT_len (tm_mem h x hx)
  rw [wordsT_len] at hj
  unfold tempoT
  omega
def ct_lawTempo : Ct := ctOf [.v (.seq (.int .u8))] (fun ((code : List (Ty.int .u8).den), _) => .p (bytesOk code)) (fun ((code : List (Ty.int .u8).den), _) => .bool true)
set_option maxHeartbeats 1000000 in
theorem sat_lawTempo : Sat Tryz.prog 4 ct_lawTempo := by
  refine sat_typed (C := C_Tt_2) (L := noL) (wr := false) mixedOk Tryz.func4 C_Tt_2_ok (loops0 (by kernel_rfl)) (fun _ => by first | rfl | (simp [ownsOf, ownsOf.ownsL, enc, encV, encS])) fun x hp => ?_
  obtain ⟨(code : List (Ty.int .u8).den), _⟩ := x
  replace hp : bytesOk code := hp
  have htree : exFunc Tryz.prog C_Tt_2 false noL Tryz.f4 (encA [.v (.seq (.int .u8))] (code, ())) = .ite (decide ((3000 : Int) < (↑code.length : Int)) || decide ((3000 : Int) < (↑(0 : Nat) : Int))) (.leaf [.lit true]) (.need (bytesOk code) (.need ((↑(A2T code).fst.length : Int) ≤ (9223372036854775807 : Int)) (.need ((↑(A2T code).fst.length : Int) ≤ (9223372036854775807 : Int)) (.ite ((posF (A2T code).fst ((A2T code).snd.fst.fst, (A2T code).snd.fst.snd)).snd != (0 : Int)) (.ite ((posF (A2T code).fst ((A2T code).snd.fst.fst, (A2T code).snd.fst.snd)).snd == (0 : Int)) (.ite ((posF (A2T code).fst ((A2T code).snd.snd.fst, (A2T code).snd.snd.snd)).snd == (0 : Int)) (.leaf [.lit true]) (.leaf [.bool ((posF (A2T code).fst ((A2T code).snd.snd.fst, (A2T code).snd.snd.snd)).snd == (2 : Int))])) (.ite ((posF (A2T code).fst ((A2T code).snd.fst.fst, (A2T code).snd.fst.snd)).snd == (2 : Int)) (.ite ((posF (A2T code).fst ((A2T code).snd.snd.fst, (A2T code).snd.snd.snd)).snd == (0 : Int)) (.leaf [.lit true]) (.leaf [.bool ((posF (A2T code).fst ((A2T code).snd.snd.fst, (A2T code).snd.snd.snd)).snd == (2 : Int))])) (.leaf [.lit false]))) (.ite ((posF (A2T code).fst ((A2T code).snd.snd.fst, (A2T code).snd.snd.snd)).snd != (0 : Int)) (.ite ((posF (A2T code).fst ((A2T code).snd.fst.fst, (A2T code).snd.fst.snd)).snd == (0 : Int)) (.ite ((posF (A2T code).fst ((A2T code).snd.snd.fst, (A2T code).snd.snd.snd)).snd == (0 : Int)) (.leaf [.lit true]) (.leaf [.bool ((posF (A2T code).fst ((A2T code).snd.snd.fst, (A2T code).snd.snd.snd)).snd == (2 : Int))])) (.ite ((posF (A2T code).fst ((A2T code).snd.fst.fst, (A2T code).snd.fst.snd)).snd == (2 : Int)) (.ite ((posF (A2T code).fst ((A2T code).snd.snd.fst, (A2T code).snd.snd.snd)).snd == (0 : Int)) (.leaf [.lit true]) (.leaf [.bool ((posF (A2T code).fst ((A2T code).snd.snd.fst, (A2T code).snd.snd.snd)).snd == (2 : Int))])) (.leaf [.lit false]))) (.need ((↑(A2T code).fst.length : Int) ≤ (9223372036854775807 : Int)) (.need ((↑(A2T code).fst.length : Int) ≤ (9223372036854775807 : Int)) (.ite ((if okF (A2T code).snd.fst.fst (A2T code).snd.fst.snd = true ∧ okF (A2T code).snd.snd.fst (A2T code).snd.snd.snd = true then cmpF (A2T code).snd.fst.fst (A2T code).snd.fst.snd (A2T code).snd.snd.fst (A2T code).snd.snd.snd else (0 : Int)) != if okF (posF (A2T code).fst ((A2T code).snd.fst.fst, (A2T code).snd.fst.snd)).fst.fst (posF (A2T code).fst ((A2T code).snd.fst.fst, (A2T code).snd.fst.snd)).fst.snd = true ∧ okF (posF (A2T code).fst ((A2T code).snd.snd.fst, (A2T code).snd.snd.snd)).fst.fst (posF (A2T code).fst ((A2T code).snd.snd.fst, (A2T code).snd.snd.snd)).fst.snd = true then cmpF (posF (A2T code).fst ((A2T code).snd.fst.fst, (A2T code).snd.fst.snd)).fst.fst (posF (A2T code).fst ((A2T code).snd.fst.fst, (A2T code).snd.fst.snd)).fst.snd (posF (A2T code).fst ((A2T code).snd.snd.fst, (A2T code).snd.snd.snd)).fst.fst (posF (A2T code).fst ((A2T code).snd.snd.fst, (A2T code).snd.snd.snd)).fst.snd else (0 : Int)) (.leaf [.lit false]) (.ite ((bopF (A2T code).fst ((posF (A2T code).fst ((A2T code).snd.fst.fst, (A2T code).snd.fst.snd)).fst.fst, (posF (A2T code).fst ((A2T code).snd.fst.fst, (A2T code).snd.fst.snd)).fst.snd)).snd != (0 : Int)) (.leaf [.lit false]) (.ite (!((bopF (A2T code).fst ((posF (A2T code).fst ((A2T code).snd.fst.fst, (A2T code).snd.fst.snd)).fst.fst, (posF (A2T code).fst ((A2T code).snd.fst.fst, (A2T code).snd.fst.snd)).fst.snd)).fst.fst == (A2T code).snd.fst.fst && (bopF (A2T code).fst ((posF (A2T code).fst ((A2T code).snd.fst.fst, (A2T code).snd.fst.snd)).fst.fst, (posF (A2T code).fst ((A2T code).snd.fst.fst, (A2T code).snd.fst.snd)).fst.snd)).fst.snd == (A2T code).snd.fst.snd)) (.leaf [.lit false]) (.ite ((posF (A2T code).fst ((A2T code).snd.fst.fst, (A2T code).snd.fst.snd)).snd != (0 : Int)) (.leaf [.lit false]) (.ite ((if (posF (A2T code).fst ((A2T code).snd.fst.fst, (A2T code).snd.fst.snd)).snd = (0 : Int) then (posF (A2T code).fst ((A2T code).snd.fst.fst, (A2T code).snd.fst.snd)).fst.fst / (posF (A2T code).fst ((A2T code).snd.fst.fst, (A2T code).snd.fst.snd)).fst.snd else (0 : Int)) != if okF (posF (A2T code).fst ((A2T code).snd.fst.fst, (A2T code).snd.fst.snd)).fst.fst (posF (A2T code).fst ((A2T code).snd.fst.fst, (A2T code).snd.fst.snd)).fst.snd = true then (posF (A2T code).fst ((A2T code).snd.fst.fst, (A2T code).snd.fst.snd)).fst.fst / (posF (A2T code).fst ((A2T code).snd.fst.fst, (A2T code).snd.fst.snd)).fst.snd else (0 : Int)) (.leaf [.lit false]) (.need ((↑(A2T code).fst.length : Int) ≤ (9223372036854775807 : Int)) (.need ((if tmapF (A2T code).fst = true then tempoT (A2T code).fst else []).length ≤ (1048576 : Nat)) (.ite ((tmI (if tmapF (A2T code).fst = true then tempoT (A2T code).fst else [])).snd) (.need ((↑(tmI (if tmapF (A2T code).fst = true then tempoT (A2T code).fst else [])).fst.length : Int) ≤ (9223372036854775807 : Int)) (.leaf [.bool (decide ((tmI (if tmapF (A2T code).fst = true then tempoT (A2T code).fst else [])).fst = (A2T code).fst))])) (.leaf [.lit false])))))))))))))))) := by kernel_rfl
  refine (congrArg (Tree.ok _) htree).mpr ?_
  clear htree
  obtain ⟨v1, v2, v3⟩ := A2T_valid hp
  have ca := pos_code v1 v2
  have cb := pos_code v1 v3
  have hcmp : (posF (A2T code).1 (A2T code).2.1).2 = 0 → (posF (A2T code).1 (A2T code).2.2).2 = 0 → cmpF (A2T code).2.1.1 (A2T code).2.1.2 (A2T code).2.2.1 (A2T code).2.2.2 = cmpF (posF (A2T code).1 (A2T code).2.1).1.1 (posF (A2T code).1 (A2T code).2.1).1.2 (posF (A2T code).1 (A2T code).2.2).1.1 (posF (A2T code).1 (A2T code).2.2).1.2 := fun h1 h2 => cmp_pos h1 h2
  have hback : (posF (A2T code).1 (A2T code).2.1).2 = 0 → bopF (A2T code).1 (posF (A2T code).1 (A2T code).2.1).1 = ((A2T code).2.1, 0) := fun h => pos_back h v2.2.2
  have hox : ∀ x, (posF (A2T code).1 x).2 = 0 → okF (posF (A2T code).1 x).1.1 (posF (A2T code).1 x).1.2 = true := fun x h => by
    obtain ⟨_, _, _, _, _, _, _, h4, _⟩ := pos_at h
    exact h4
  have hoa := hox (A2T code).2.1
  have hob := hox (A2T code).2.2
  clear hox
  have hrd := (tm_of v1).1
  have hlen := tempoT_len v1
  have l1 := (tmap_spec v1).1
  have e1 := v2.1
  have e2 := v3.1
  have eta : ∀ z : Int × Int, (z.1, z.2) = z := fun _ => rfl
  simp only [Tree.ok, tyd_inj, packAV, AV.same, AV.same.sameL, encV, encS, enc, inK, Nd.ok, List.headD_cons, List.cons_append, List.nil_append, List.append_nil, true_and, and_true, Bool.true_and, Bool.and_true, eta, e1, e2, v1, and_self, if_true]
  generalize A2T code = X at *
  obtain ⟨ts, a, b⟩ := X
  simp only at *
  rw [hrd]
  generalize posF ts a = x at *
  generalize posF ts b = y at *
  obtain ⟨⟨x1, x2⟩, xc⟩ := x
  obtain ⟨⟨y1, y2⟩, yc⟩ := y
  simp only at *
  by_cases hx : xc = 0
  · by_cases hy : yc = 0
    · have h1 := hcmp hx hy
      have h2 := hback hx
      have h3 := hoa hx
      have h4 := hob hy
      subst hx hy
      simp only [h1, h2, h3, h4, and_self, if_true]
      clear hcmp hback hoa hob hrd
      repeat' first | apply And.intro | intro _
      all_goals first | omega | exact hp | exact (hp _ ‹_›).1 | exact (hp _ ‹_›).2 | trivial | rfl | contradiction | (simp_all; done) | (trace_state; fail)
    · have hy2 : yc = 2 := by omega
      subst hx hy2
      clear hcmp hback hoa hob hrd
      repeat' first | apply And.intro | intro _
      all_goals first | omega | exact hp | exact (hp _ ‹_›).1 | exact (hp _ ‹_›).2 | trivial | rfl | contradiction | (simp_all; done) | (trace_state; fail)
  · have hx2 : xc = 2 := by omega
    subst hx2
    clear hcmp hback hoa hob hrd
    by_cases hy : yc = 0
    · subst hy
      repeat' first | apply And.intro | intro _
      all_goals first | omega | exact hp | exact (hp _ ‹_›).1 | exact (hp _ ‹_›).2 | trivial | rfl | contradiction | (simp_all; done) | (trace_state; fail)
    · have hy2 : yc = 2 := by omega
      subst hy2
      repeat' first | apply And.intro | intro _
      all_goals first | omega | exact hp | exact (hp _ ‹_›).1 | exact (hp _ ‹_›).2 | trivial | rfl | contradiction | (simp_all; done) | (trace_state; fail)
def C_Tt_3 : FuncId → Option Ct := addC 4 ct_lawTempo C_Tt_2
theorem C_Tt_3_ok : COk Tryz.prog C_Tt_3 := addC_ok C_Tt_2_ok sat_lawTempo

def C_Tt : FuncId → Option Ct := C_Tt_3
theorem C_Tt_ok : COk Tryz.prog C_Tt := C_Tt_3_ok
end Go.Proofs.YtkeckmdmmbeaiaaGreatDoor
