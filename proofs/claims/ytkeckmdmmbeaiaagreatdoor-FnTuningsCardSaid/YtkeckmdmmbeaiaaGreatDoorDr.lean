/- Contracts: what is drawn from bytes: next, pick, one, among. Conditions: as each says. -/
import Derived.Test.YtkeckmdmmbeaiaaGreatDoorFj
set_option linter.unusedSimpArgs false
set_option linter.unusedVariables false
namespace Go.Proofs.YtkeckmdmmbeaiaaGreatDoor
open Go.RowKit Sx
set_option maxRecDepth 100000
set_option maxHeartbeats 1000000
abbrev tSrc : Ty := .pair (.seq (.int .u8)) (.pair I64 (.int .u64))
abbrev Src := List Int × Int × Int
def srcB (s : Src) : Int := if s.2.1 < ((s.1 : List Int).length : Int) then (s.1 : List Int).getD s.2.1.toNat 0 else 0
def seedN (s : Src) : Int := IntKind.u64.wrap (IntKind.u64.wrap (IntKind.u64.wrap (s.2.2 * 6364136223846793005) + IntKind.u64.wrap (srcB s)) + 1442695040888963407)
def nextN (s : Src) : Src := (s.1, s.2.1 + 1, seedN s)
def nextV (s : Src) : Int := if s.2.1 + 1 ≤ ((s.1 : List Int).length : Int) then srcB s else seedN s / 1099511627776 % 256
/-- Bytes, a place not below 0 and at most n. -/
structure okS (s : Src) (n : Int) : Prop where
  lo : 0 ≤ s.2.1
  hi : s.2.1 ≤ n
  by8 : ∀ z ∈ (s.1 : List Int), 0 ≤ z ∧ z ≤ 255
theorem srcB_bd {s : Src} {n : Int} (h : okS s n) : 0 ≤ srcB s ∧ srcB s ≤ 255 := by
  unfold srcB
  split
  · rename_i hl
    have h0 := h.lo
    rw [getD_lt _ _ _ (by omega)]
    exact h.by8 _ (List.getElem_mem _)
  · omega
theorem u64w (z : Int) : 0 ≤ IntKind.u64.wrap z ∧ IntKind.u64.wrap z ≤ 18446744073709551615 := by
  simp only [IntKind.wrap, IntKind.bits, IntKind.signed]
  simp
  omega
theorem seedN_bd (s : Src) : 0 ≤ seedN s ∧ seedN s ≤ 18446744073709551615 := u64w _
theorem nextV_bd {s : Src} {n : Int} (h : okS s n) : 0 ≤ nextV s ∧ nextV s ≤ 255 := by
  have h1 := srcB_bd h
  have h2 := seedN_bd s
  unfold nextV
  split <;> omega
theorem nextN_ok {s : Src} {n : Int} (h : okS s n) : okS (nextN s) (n + 1) := ⟨by have := h.lo; show 0 ≤ s.2.1 + 1; omega, by have := h.hi; show s.2.1 + 1 ≤ n + 1; omega, h.by8⟩
theorem okS.mono {s : Src} {n m : Int} (h : okS s n) (hm : n ≤ m) : okS s m := ⟨h.lo, by have := h.hi; omega, h.by8⟩
theorem and255 (n : Int) (h : 0 ≤ n) : ((n.toNat &&& 255 : Nat) : Int) = n % 256 := by
  have := Nat.and_two_pow_sub_one_eq_mod n.toNat 8
  rw [show (255 : Nat) = 2 ^ 8 - 1 by decide, this]
  omega
def pickS (s : Src) (n : Int) : Int × Src :=
  if n ≤ 1 then (0, s) else if 200 < n then ((nextV s * 256 + nextV (nextN s)) % n, nextN (nextN s)) else (nextV s % n, nextN s)
theorem pickS_ok {s : Src} {m : Int} (h : okS s m) (n : Int) : okS (pickS s n).2 (m + 2) := by
  unfold pickS
  split
  · exact h.mono (by omega)
  · split
    · have := nextN_ok (nextN_ok h); exact this.mono (by omega)
    · exact (nextN_ok h).mono (by omega)
theorem pickS_bd {s : Src} {m : Int} (h : okS s m) (n : Int) : 0 ≤ (pickS s n).1 ∧ (1 ≤ n → (pickS s n).1 ≤ n - 1) ∧ (n ≤ 1 → (pickS s n).1 = 0) := by
  have h1 := nextV_bd h
  have h2 := nextV_bd (nextN_ok h)
  unfold pickS
  split
  · exact ⟨by simp, fun _ => by simp only; omega, fun _ => rfl⟩
  · rename_i hn
    have e1 := Int.emod_nonneg (nextV s * 256 + nextV (nextN s)) (b := n) (by omega)
    have e2 := Int.emod_lt_of_pos (nextV s * 256 + nextV (nextN s)) (b := n) (by omega)
    have e3 := Int.emod_nonneg (nextV s) (b := n) (by omega)
    have e4 := Int.emod_lt_of_pos (nextV s) (b := n) (by omega)
    split
    · exact ⟨e1, fun _ => by simp only; omega, fun h => absurd h hn⟩
    · exact ⟨e3, fun _ => by simp only; omega, fun h => absurd h hn⟩
def amongS (s : Src) (xs : List Int) : Int × Src := (xs.getD (pickS s xs.length).1.toNat 0, (pickS s xs.length).2)
theorem amongS_ok {s : Src} {m : Int} (h : okS s m) (xs : List Int) : okS (amongS s xs).2 (m + 2) := pickS_ok h _
theorem amongS_mem {s : Src} {m : Int} (h : okS s m) (xs : List Int) (hx : 1 ≤ (xs.length : Int)) : (amongS s xs).1 ∈ xs := by
  have hb := pickS_bd h (xs.length : Int)
  have hb1 := hb.2.1 hx
  show xs.getD _ 0 ∈ xs
  rw [getD_lt _ _ _ (by omega)]
  exact List.getElem_mem _
def ct_l00From : Ct := ctOfN [.v (.seq (.int .u8))] (fun _ => .tt) tSrc (fun ((code : List (Ty.int .u8).den), _) => (code, 0, 0))
set_option maxHeartbeats 1000000 in
theorem sat_l00From : Sat Tryz.prog 54 ct_l00From := by
  refine sat_typedN (C := C_Fj) (L := noL) (wr := false) mixedOk Tryz.func54 C_Fj_ok (loops0 (by kernel_rfl))  fun x hp => ?_
  obtain ⟨(code : List (Ty.int .u8).den), _⟩ := x
  clear hp
  have htree : exFuncN Tryz.prog C_Fj false noL Tryz.f54 (encA [.v (.seq (.int .u8))] (code, ())) = .leaf ⟨(Ty.int IntKind.u8).seq.pair ((Ty.int IntKind.i64).pair (Ty.int IntKind.u64)), (code, (0 : Int), (0 : Int))⟩ := by kernel_rfl
  refine (congrArg (Tree.ok _) htree).mpr ?_
  clear htree
  simp only [Tree.ok, tyd_inj, packAV, AV.same, AV.same.sameL, encV, encS, enc, inK, Nd.ok, List.headD_cons, List.cons_append, List.nil_append, List.append_nil, true_and, and_true, Bool.true_and, Bool.and_true]
def C_Dr_1 : FuncId → Option Ct := addC 54 ct_l00From C_Fj
theorem C_Dr_1_ok : COk Tryz.prog C_Dr_1 := addC_ok C_Fj_ok sat_l00From
def ct_next : Ct := ctOfB tSrc [] (fun ((code : List (Ty.int .u8).den), (a : Int), (sd : Int)) _ => .p (okS (code, a, sd) 1000000000)) (fun ((code : List (Ty.int .u8).den), (a : Int), (sd : Int)) _ => .int .i64 (nextV (code, a, sd))) (fun ((code : List (Ty.int .u8).den), (a : Int), (sd : Int)) _ => nextN (code, a, sd))
set_option maxHeartbeats 1000000 in
theorem sat_next : Sat Tryz.prog 147 ct_next := by
  refine sat_typedB (C := C_Dr_1) (L := noL) (wr := true) mixedOk Tryz.func147 C_Dr_1_ok (loops0 (by kernel_rfl)) (fun _ _ => by first | rfl | (simp [ownsOf, ownsOf.ownsL, enc, encV, encS])) fun bx x hp => ?_
  obtain ⟨(code : List (Ty.int .u8).den), (a : Int), (sd : Int)⟩ := bx
  obtain _ := x
  replace hp : okS (code, a, sd) 1000000000 := hp
  have htree : exFuncB Tryz.prog C_Dr_1 true noL Tryz.f147 (encA [] ()) ⟨tSrc, (code, a, sd)⟩ = .ite (decide (a < (↑code.length : Int))) (.need ((0 : Int) ≤ a ∧ a < (↑code.length : Int)) (.ite (decide (IntKind.i64.wrap (a + (1 : Int)) ≤ (↑code.length : Int))) (.leaf ([.int .i64 (IntKind.i64.wrap (getT (Ty.int IntKind.u8) code a))], ⟨(Ty.int IntKind.u8).seq.pair ((Ty.int IntKind.i64).pair (Ty.int IntKind.u64)), (code, IntKind.i64.wrap (a + (1 : Int)), IntKind.u64.wrap (IntKind.u64.wrap (IntKind.u64.wrap (sd * (6364136223846793005 : Int)) + IntKind.u64.wrap (IntKind.i64.wrap (getT (Ty.int IntKind.u8) code a))) + (1442695040888963407 : Int)))⟩)) (.need (((0 : Int) ≤ (40 : Int) ∧ (40 : Int) ≤ (63 : Int)) ∧ (IntKind.u64 = IntKind.i64 ∨ IntKind.u64 = IntKind.u64)) (.need (((0 : Int) ≤ IntKind.u64.wrap (IntKind.u64.wrap (IntKind.u64.wrap (sd * (6364136223846793005 : Int)) + IntKind.u64.wrap (IntKind.i64.wrap (getT (Ty.int IntKind.u8) code a))) + (1442695040888963407 : Int)) / (2 : Int) ^ Int.toNat (40 : Int) ∧ IntKind.u64.wrap (IntKind.u64.wrap (IntKind.u64.wrap (sd * (6364136223846793005 : Int)) + IntKind.u64.wrap (IntKind.i64.wrap (getT (Ty.int IntKind.u8) code a))) + (1442695040888963407 : Int)) / (2 : Int) ^ Int.toNat (40 : Int) ≤ (9223372036854775807 : Int)) ∧ ((0 : Int) ≤ (255 : Int) ∧ (255 : Int) ≤ (9223372036854775807 : Int)) ∧ (IntKind.u64 = IntKind.i64 ∨ IntKind.u64 = IntKind.u64)) (.leaf ([.int .i64 (IntKind.i64.wrap (↑((IntKind.u64.wrap (IntKind.u64.wrap (IntKind.u64.wrap (sd * (6364136223846793005 : Int)) + IntKind.u64.wrap (IntKind.i64.wrap (getT (Ty.int IntKind.u8) code a))) + (1442695040888963407 : Int)) / (2 : Int) ^ Int.toNat (40 : Int)).toNat &&& Int.toNat (255 : Int)) : Int))], ⟨(Ty.int IntKind.u8).seq.pair ((Ty.int IntKind.i64).pair (Ty.int IntKind.u64)), (code, IntKind.i64.wrap (a + (1 : Int)), IntKind.u64.wrap (IntKind.u64.wrap (IntKind.u64.wrap (sd * (6364136223846793005 : Int)) + IntKind.u64.wrap (IntKind.i64.wrap (getT (Ty.int IntKind.u8) code a))) + (1442695040888963407 : Int)))⟩)))))) (.ite (decide (IntKind.i64.wrap (a + (1 : Int)) ≤ (↑code.length : Int))) (.leaf ([.int .i64 ((0 : Int))], ⟨(Ty.int IntKind.u8).seq.pair ((Ty.int IntKind.i64).pair (Ty.int IntKind.u64)), (code, IntKind.i64.wrap (a + (1 : Int)), IntKind.u64.wrap (IntKind.u64.wrap (IntKind.u64.wrap (sd * (6364136223846793005 : Int)) + IntKind.u64.wrap (0 : Int)) + (1442695040888963407 : Int)))⟩)) (.need (((0 : Int) ≤ (40 : Int) ∧ (40 : Int) ≤ (63 : Int)) ∧ (IntKind.u64 = IntKind.i64 ∨ IntKind.u64 = IntKind.u64)) (.need (((0 : Int) ≤ IntKind.u64.wrap (IntKind.u64.wrap (IntKind.u64.wrap (sd * (6364136223846793005 : Int)) + IntKind.u64.wrap (0 : Int)) + (1442695040888963407 : Int)) / (2 : Int) ^ Int.toNat (40 : Int) ∧ IntKind.u64.wrap (IntKind.u64.wrap (IntKind.u64.wrap (sd * (6364136223846793005 : Int)) + IntKind.u64.wrap (0 : Int)) + (1442695040888963407 : Int)) / (2 : Int) ^ Int.toNat (40 : Int) ≤ (9223372036854775807 : Int)) ∧ ((0 : Int) ≤ (255 : Int) ∧ (255 : Int) ≤ (9223372036854775807 : Int)) ∧ (IntKind.u64 = IntKind.i64 ∨ IntKind.u64 = IntKind.u64)) (.leaf ([.int .i64 (IntKind.i64.wrap (↑((IntKind.u64.wrap (IntKind.u64.wrap (IntKind.u64.wrap (sd * (6364136223846793005 : Int)) + IntKind.u64.wrap (0 : Int)) + (1442695040888963407 : Int)) / (2 : Int) ^ Int.toNat (40 : Int)).toNat &&& Int.toNat (255 : Int)) : Int))], ⟨(Ty.int IntKind.u8).seq.pair ((Ty.int IntKind.i64).pair (Ty.int IntKind.u64)), (code, IntKind.i64.wrap (a + (1 : Int)), IntKind.u64.wrap (IntKind.u64.wrap (IntKind.u64.wrap (sd * (6364136223846793005 : Int)) + IntKind.u64.wrap (0 : Int)) + (1442695040888963407 : Int)))⟩))))) := by kernel_rfl
  refine (congrArg (Tree.ok _) htree).mpr ?_
  clear htree
  have h0 : 0 ≤ a := hp.lo
  have h1 : a ≤ 1000000000 := hp.hi
  have hb := srcB_bd hp
  have hs := seedN_bd (code, a, sd)
  have e1 : IntKind.i64.wrap (a + 1) = a + 1 := wrap_in (by simp only [inK]; omega)
  have hV : nextV (code, a, sd) = if a + 1 ≤ (code.length : Int) then srcB (code, a, sd) else seedN (code, a, sd) / 1099511627776 % 256 := rfl
  have hN : nextN (code, a, sd) = (code, a + 1, seedN (code, a, sd)) := rfl
  have hB : srcB (code, a, sd) = if a < (code.length : Int) then (code : List Int).getD a.toNat 0 else 0 := rfl
  have hS : seedN (code, a, sd) = IntKind.u64.wrap (IntKind.u64.wrap (IntKind.u64.wrap (sd * 6364136223846793005) + IntKind.u64.wrap (srcB (code, a, sd))) + 1442695040888963407) := rfl
  have hg : getT (Ty.int .u8) code a = (code : List Int).getD a.toNat 0 := rfl
  simp only [Tree.ok, tyd_inj, packAV, AV.same, AV.same.sameL, encV, encS, enc, inK, Nd.ok, List.headD_cons, List.cons_append, List.nil_append, List.append_nil, true_and, and_true, Bool.true_and, Bool.and_true, e1, hV, hN, hg]
  rw [hS] at hs ⊢
  by_cases ha : a < (code.length : Int)
  · rw [if_pos ha] at hB
    have hw : IntKind.i64.wrap ((code : List Int).getD a.toNat 0) = srcB (code, a, sd) := by rw [← hB]; exact wrap_in (by simp only [inK]; omega)
    simp only [hw]
    generalize IntKind.u64.wrap (IntKind.u64.wrap (IntKind.u64.wrap (sd * 6364136223846793005) + IntKind.u64.wrap (srcB (code, a, sd))) + 1442695040888963407) = S at *
    have h40 : (2 : Int) ^ Int.toNat 40 = 1099511627776 := by decide
    have h255 : Int.toNat 255 = 255 := rfl
    have ha5 := and255 (S / 1099511627776) (by omega)
    have hw2 : IntKind.i64.wrap (S / 1099511627776 % 256) = S / 1099511627776 % 256 := wrap_in (by simp only [inK]; omega)
    simp only [h40, h255, ha5, hw2, decide_eq_true_eq, decide_eq_false_iff_not]
    repeat' first | apply And.intro | intro _
    all_goals first | omega | trivial | (rw [if_pos ‹_›]; done) | (rw [if_neg ‹_›]; done) | (simp_all; done) | (simp_all; omega)
  · rw [if_neg ha] at hB
    rw [hB] at hs ⊢
    generalize IntKind.u64.wrap (IntKind.u64.wrap (IntKind.u64.wrap (sd * 6364136223846793005) + IntKind.u64.wrap 0) + 1442695040888963407) = S at *
    have h40 : (2 : Int) ^ Int.toNat 40 = 1099511627776 := by decide
    have h255 : Int.toNat 255 = 255 := rfl
    have ha5 := and255 (S / 1099511627776) (by omega)
    have hw2 : IntKind.i64.wrap (S / 1099511627776 % 256) = S / 1099511627776 % 256 := wrap_in (by simp only [inK]; omega)
    simp only [h40, h255, ha5, hw2, decide_eq_true_eq, decide_eq_false_iff_not]
    repeat' first | apply And.intro | intro _
    all_goals first | omega | trivial | (rw [if_pos ‹_›]; done) | (rw [if_neg ‹_›]; done) | (simp_all; done) | (simp_all; omega)
def C_Dr_2 : FuncId → Option Ct := addC 147 ct_next C_Dr_1
theorem C_Dr_2_ok : COk Tryz.prog C_Dr_2 := addC_ok C_Dr_1_ok sat_next
def ct_pick : Ct := ctOfB tSrc [.v (.int .i64)] (fun ((code : List (Ty.int .u8).den), (a : Int), (sd : Int)) ((n : Int), _) => .p (okS (code, a, sd) 900000000 ∧ n ≤ 1000000)) (fun ((code : List (Ty.int .u8).den), (a : Int), (sd : Int)) ((n : Int), _) => .int .i64 (pickS (code, a, sd) n).1) (fun ((code : List (Ty.int .u8).den), (a : Int), (sd : Int)) ((n : Int), _) => (pickS (code, a, sd) n).2)
set_option maxHeartbeats 1000000 in
theorem sat_pick : Sat Tryz.prog 107 ct_pick := by
  refine sat_typedB (C := C_Dr_2) (L := noL) (wr := false) mixedOk Tryz.func107 C_Dr_2_ok (loops0 (by kernel_rfl)) (fun _ _ => by first | rfl | (simp [ownsOf, ownsOf.ownsL, enc, encV, encS])) fun bx x hp => ?_
  obtain ⟨(code : List (Ty.int .u8).den), (a : Int), (sd : Int)⟩ := bx
  obtain ⟨(n : Int), _⟩ := x
  replace hp : okS (code, a, sd) 900000000 ∧ n ≤ 1000000 := hp
  have htree : exFuncB Tryz.prog C_Dr_2 false noL Tryz.f107 (encA [.v (.int .i64)] (n, ())) ⟨tSrc, (code, a, sd)⟩ = .ite (decide (n ≤ (1 : Int))) (.leaf ([.int .i64 ((0 : Int))], ⟨(Ty.int IntKind.u8).seq.pair ((Ty.int IntKind.i64).pair (Ty.int IntKind.u64)), (code, a, sd)⟩)) (.need (okS (code, a, sd) (1000000000 : Int)) (.ite (decide ((200 : Int) < n)) (.need (inK IntKind.i64 (nextV (code, a, sd) * (256 : Int))) (.need (okS ((nextN (code, a, sd)).fst, (nextN (code, a, sd)).snd.fst, (nextN (code, a, sd)).snd.snd) (1000000000 : Int)) (.need (inK IntKind.i64 (nextV (code, a, sd) * (256 : Int) + nextV ((nextN (code, a, sd)).fst, (nextN (code, a, sd)).snd.fst, (nextN (code, a, sd)).snd.snd))) (.need (n ≠ (0 : Int)) (.leaf ([.int .i64 ((nextV (code, a, sd) * (256 : Int) + nextV ((nextN (code, a, sd)).fst, (nextN (code, a, sd)).snd.fst, (nextN (code, a, sd)).snd.snd)).tmod n)], ⟨(Ty.int IntKind.u8).seq.pair ((Ty.int IntKind.i64).pair (Ty.int IntKind.u64)), ((nextN ((nextN (code, a, sd)).fst, (nextN (code, a, sd)).snd.fst, (nextN (code, a, sd)).snd.snd)).fst, (nextN ((nextN (code, a, sd)).fst, (nextN (code, a, sd)).snd.fst, (nextN (code, a, sd)).snd.snd)).snd.fst, (nextN ((nextN (code, a, sd)).fst, (nextN (code, a, sd)).snd.fst, (nextN (code, a, sd)).snd.snd)).snd.snd)⟩)))))) (.need (n ≠ (0 : Int)) (.leaf ([.int .i64 ((nextV (code, a, sd)).tmod n)], ⟨(Ty.int IntKind.u8).seq.pair ((Ty.int IntKind.i64).pair (Ty.int IntKind.u64)), ((nextN (code, a, sd)).fst, (nextN (code, a, sd)).snd.fst, (nextN (code, a, sd)).snd.snd)⟩))))) := by kernel_rfl
  refine (congrArg (Tree.ok _) htree).mpr ?_
  clear htree
  have h1 := hp.1.mono (show (900000000 : Int) ≤ 1000000000 by omega)
  have h2 := (nextN_ok hp.1).mono (show (900000000 : Int) + 1 ≤ 1000000000 by omega)
  have b1 := nextV_bd h1
  have b2 := nextV_bd h2
  have heta : ((nextN (code, a, sd)).1, (nextN (code, a, sd)).2.1, (nextN (code, a, sd)).2.2) = nextN (code, a, sd) := rfl
  have hP : pickS (code, a, sd) n = if n ≤ 1 then (0, (code, a, sd)) else if 200 < n then ((nextV (code, a, sd) * 256 + nextV (nextN (code, a, sd))) % n, nextN (nextN (code, a, sd))) else (nextV (code, a, sd) % n, nextN (code, a, sd)) := rfl
  simp only [Tree.ok, tyd_inj, packAV, AV.same, AV.same.sameL, encV, encS, enc, inK, Nd.ok, List.headD_cons, List.cons_append, List.nil_append, List.append_nil, true_and, and_true, Bool.true_and, Bool.and_true, heta, decide_eq_true_eq, decide_eq_false_iff_not] at *
  rw [hP]
  clear hP
  generalize nextV (nextN (code, a, sd)) = v2 at *
  generalize nextN (nextN (code, a, sd)) = s2 at *
  generalize nextV (code, a, sd) = v1 at *
  generalize nextN (code, a, sd) = s1 at *
  by_cases c1 : n ≤ 1
  · simp only [if_pos c1]
    exact ⟨fun _ => ⟨trivial, trivial⟩, fun h => absurd c1 h⟩
  · simp only [if_neg c1]
    refine ⟨fun h => absurd h c1, fun _ => ⟨h1, ?_⟩⟩
    by_cases c2 : 200 < n
    · simp only [if_pos c2]
      refine ⟨fun _ => ⟨by omega, h2, by omega, by omega, Int.tmod_eq_emod_of_nonneg (by omega), trivial⟩, fun h => absurd c2 h⟩
    · simp only [if_neg c2]
      exact ⟨fun h => absurd h c2, fun _ => ⟨by omega, Int.tmod_eq_emod_of_nonneg (by omega), trivial⟩⟩
def C_Dr_3 : FuncId → Option Ct := addC 107 ct_pick C_Dr_2
theorem C_Dr_3_ok : COk Tryz.prog C_Dr_3 := addC_ok C_Dr_2_ok sat_pick
def ct_one : Ct := ctOfB tSrc [.v (.int .i64)] (fun ((code : List (Ty.int .u8).den), (a : Int), (sd : Int)) ((n : Int), _) => .p (okS (code, a, sd) 900000000 ∧ n ≤ 1000000)) (fun ((code : List (Ty.int .u8).den), (a : Int), (sd : Int)) ((n : Int), _) => .bool (decide ((pickS (code, a, sd) n).1 = 0))) (fun ((code : List (Ty.int .u8).den), (a : Int), (sd : Int)) ((n : Int), _) => (pickS (code, a, sd) n).2)
set_option maxHeartbeats 1000000 in
theorem sat_one : Sat Tryz.prog 123 ct_one := by
  refine sat_typedB (C := C_Dr_3) (L := noL) (wr := false) mixedOk Tryz.func123 C_Dr_3_ok (loops0 (by kernel_rfl)) (fun _ _ => by first | rfl | (simp [ownsOf, ownsOf.ownsL, enc, encV, encS])) fun bx x hp => ?_
  obtain ⟨(code : List (Ty.int .u8).den), (a : Int), (sd : Int)⟩ := bx
  obtain ⟨(n : Int), _⟩ := x
  replace hp : okS (code, a, sd) 900000000 ∧ n ≤ 1000000 := hp
  have htree : exFuncB Tryz.prog C_Dr_3 false noL Tryz.f123 (encA [.v (.int .i64)] (n, ())) ⟨tSrc, (code, a, sd)⟩ = .need (okS (code, a, sd) (900000000 : Int) ∧ n ≤ (1000000 : Int)) (.leaf ([.bool ((pickS (code, a, sd) n).fst == (0 : Int))], ⟨(Ty.int IntKind.u8).seq.pair ((Ty.int IntKind.i64).pair (Ty.int IntKind.u64)), ((pickS (code, a, sd) n).snd.fst, (pickS (code, a, sd) n).snd.snd.fst, (pickS (code, a, sd) n).snd.snd.snd)⟩)) := by kernel_rfl
  refine (congrArg (Tree.ok _) htree).mpr ?_
  clear htree
  have heta : ((pickS (code, a, sd) n).2.1, (pickS (code, a, sd) n).2.2.1, (pickS (code, a, sd) n).2.2.2) = (pickS (code, a, sd) n).2 := rfl
  simp only [Tree.ok, tyd_inj, packAV, AV.same, AV.same.sameL, encV, encS, enc, inK, Nd.ok, List.headD_cons, List.cons_append, List.nil_append, List.append_nil, true_and, and_true, Bool.true_and, Bool.and_true, heta]
  exact ⟨hp, rfl⟩
def C_Dr_4 : FuncId → Option Ct := addC 123 ct_one C_Dr_3
theorem C_Dr_4_ok : COk Tryz.prog C_Dr_4 := addC_ok C_Dr_3_ok sat_one
def ct_among : Ct := ctOfB tSrc [.v (.seq I64)] (fun ((code : List (Ty.int .u8).den), (a : Int), (sd : Int)) ((xs : List Int), _) => .p (okS (code, a, sd) 900000000 ∧ 1 ≤ (xs.length : Int) ∧ (xs.length : Int) ≤ 1000000)) (fun ((code : List (Ty.int .u8).den), (a : Int), (sd : Int)) ((xs : List Int), _) => .int .i64 (amongS (code, a, sd) xs).1) (fun ((code : List (Ty.int .u8).den), (a : Int), (sd : Int)) ((xs : List Int), _) => (amongS (code, a, sd) xs).2)
set_option maxHeartbeats 1000000 in
theorem sat_among : Sat Tryz.prog 108 ct_among := by
  refine sat_typedB (C := C_Dr_4) (L := noL) (wr := false) mixedOk Tryz.func108 C_Dr_4_ok (loops0 (by kernel_rfl)) (fun _ _ => by first | rfl | (simp [ownsOf, ownsOf.ownsL, enc, encV, encS])) fun bx x hp => ?_
  obtain ⟨(code : List (Ty.int .u8).den), (a : Int), (sd : Int)⟩ := bx
  obtain ⟨(xs : List Int), _⟩ := x
  replace hp : okS (code, a, sd) 900000000 ∧ 1 ≤ (xs.length : Int) ∧ (xs.length : Int) ≤ 1000000 := hp
  have htree : exFuncB Tryz.prog C_Dr_4 false noL Tryz.f108 (encA [.v (.seq I64)] (xs, ())) ⟨tSrc, (code, a, sd)⟩ = .need (okS (code, a, sd) (900000000 : Int) ∧ (↑xs.length : Int) ≤ (1000000 : Int)) (.need ((0 : Int) ≤ (pickS (code, a, sd) (↑xs.length : Int)).fst ∧ (pickS (code, a, sd) (↑xs.length : Int)).fst < (↑xs.length : Int)) (.leaf ([.int .i64 (getT I64 xs (pickS (code, a, sd) (↑xs.length : Int)).fst)], ⟨(Ty.int IntKind.u8).seq.pair ((Ty.int IntKind.i64).pair (Ty.int IntKind.u64)), ((pickS (code, a, sd) (↑xs.length : Int)).snd.fst, (pickS (code, a, sd) (↑xs.length : Int)).snd.snd.fst, (pickS (code, a, sd) (↑xs.length : Int)).snd.snd.snd)⟩))) := by kernel_rfl
  refine (congrArg (Tree.ok _) htree).mpr ?_
  clear htree
  have heta : ((pickS (code, a, sd) xs.length).2.1, (pickS (code, a, sd) xs.length).2.2.1, (pickS (code, a, sd) xs.length).2.2.2) = (pickS (code, a, sd) xs.length).2 := rfl
  simp only [Tree.ok, tyd_inj, packAV, AV.same, AV.same.sameL, encV, encS, enc, inK, Nd.ok, List.headD_cons, List.cons_append, List.nil_append, List.append_nil, true_and, and_true, Bool.true_and, Bool.and_true, heta]
  have hb := pickS_bd (hp.1.mono (show (900000000 : Int) ≤ 900000000 by omega)) (xs.length : Int)
  have hb1 := hb.2.1 hp.2.1
  exact ⟨⟨hp.1, hp.2.2⟩, ⟨hb.1, by omega⟩, rfl, rfl⟩
def C_Dr_5 : FuncId → Option Ct := addC 108 ct_among C_Dr_4
theorem C_Dr_5_ok : COk Tryz.prog C_Dr_5 := addC_ok C_Dr_4_ok sat_among

def C_Dr : FuncId → Option Ct := C_Dr_5
theorem C_Dr_ok : COk Tryz.prog C_Dr := C_Dr_5_ok
end Go.Proofs.YtkeckmdmmbeaiaaGreatDoor
