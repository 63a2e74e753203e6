/- Contracts: notes drawn from bytes. Conditions: as each says. -/
import Derived.Test.YtjgjcggecikdpaaDs
set_option linter.unusedSimpArgs false
set_option linter.unusedVariables false
namespace Go.Proofs.Ytjgjcggecikdpaa
open Go.RowKit Sx
set_option maxRecDepth 100000
set_option maxHeartbeats 1000000
def chanL : List Int := [0, 0, 0, 1, 15]
/-- A drawn length: never 0. -/
def lenS (s : Src) : (Int × Int) × Src := (if (beatS s 3).1.1 = 0 then (1, 4) else (beatS s 3).1, (beatS s 3).2)
def noteS (s : Src) (most : Int) : tNote.den × Src :=
  (((beatS s most).1, (lenS (beatS s most).2).1, 48 + (pickS (lenS (beatS s most).2).2 25).1, 1 + (pickS (pickS (lenS (beatS s most).2).2 25).2 127).1,
    (amongS (pickS (pickS (lenS (beatS s most).2).2 25).2 127).2 chanL).1), (amongS (pickS (pickS (lenS (beatS s most).2).2 25).2 127).2 chanL).2)
theorem lenS_ok {s : Src} {m : Int} (h : okS s m) : okS (lenS s).2 (m + 4) := beatS_ok h 3
theorem noteS_ok {s : Src} {m : Int} (h : okS s m) (most : Int) : okS (noteS s most).2 (m + 14) :=
  (amongS_ok (pickS_ok (pickS_ok (lenS_ok (beatS_ok h most)) 25) 127) chanL).mono (by omega)
def ct_l18DrawNote : Ct := ctOfB tSrc [.v (.int .i64)] (fun ((code : List (Ty.int .u8).den), (a : Int), (sd : Int)) ((most : Int), _) => .p (okS (code, a, sd) 700000000 ∧ 0 ≤ most ∧ most ≤ 1000)) (fun ((code : List (Ty.int .u8).den), (a : Int), (sd : Int)) ((most : Int), _) => .agg (enc tNote (noteS (code, a, sd) most).1)) (fun ((code : List (Ty.int .u8).den), (a : Int), (sd : Int)) ((most : Int), _) => (noteS (code, a, sd) most).2)
set_option maxHeartbeats 1000000 in
theorem sat_l18DrawNote : Sat Try.prog 153 ct_l18DrawNote := by
  refine sat_typedB (C := C_Ds) (L := noL) (wr := false) mixedOk Try.func153 C_Ds_ok (loops0 (by kernel_rfl)) (fun _ _ => by first | rfl | (simp [ownsOf, ownsOf.ownsL, enc, encV, encS])) fun bx x hp => ?_
  obtain ⟨(code : List (Ty.int .u8).den), (a : Int), (sd : Int)⟩ := bx
  obtain ⟨(most : Int), _⟩ := x
  replace hp : okS (code, a, sd) 700000000 ∧ 0 ≤ most ∧ most ≤ 1000 := hp
  have htree : exFuncB Try.prog C_Ds false noL Try.f153 (encA [.v (.int .i64)] (most, ())) ⟨tSrc, (code, a, sd)⟩ = .need (okS (code, a, sd) (800000000 : Int) ∧ (0 : Int) ≤ most ∧ most ≤ (1000 : Int)) (.need (okS (beatS (code, a, sd) most).snd (800000000 : Int) ∧ (0 : Int) ≤ (3 : Int) ∧ (3 : Int) ≤ (1000 : Int)) (.ite ((beatS (beatS (code, a, sd) most).snd (3 : Int)).fst.fst == (0 : Int)) (.need (okS (beatS (beatS (code, a, sd) most).snd (3 : Int)).snd (900000000 : Int) ∧ (25 : Int) ≤ (1000000 : Int)) (.need (inK IntKind.i64 ((48 : Int) + (pickS (beatS (beatS (code, a, sd) most).snd (3 : Int)).snd (25 : Int)).fst)) (.need (okS (pickS (beatS (beatS (code, a, sd) most).snd (3 : Int)).snd (25 : Int)).snd (900000000 : Int) ∧ (127 : Int) ≤ (1000000 : Int)) (.need (inK IntKind.i64 ((1 : Int) + (pickS (pickS (beatS (beatS (code, a, sd) most).snd (3 : Int)).snd (25 : Int)).snd (127 : Int)).fst)) (.need (okS (pickS (pickS (beatS (beatS (code, a, sd) most).snd (3 : Int)).snd (25 : Int)).snd (127 : Int)).snd (900000000 : Int) ∧ (1 : Int) ≤ (↑[(0 : Int), (0 : Int), (0 : Int), (1 : Int), (15 : Int)].length : Int) ∧ (↑[(0 : Int), (0 : Int), (0 : Int), (1 : Int), (15 : Int)].length : Int) ≤ (1000000 : Int)) (.leaf ([.agg [.int .i64 ((beatS (code, a, sd) most).fst.fst), .int .i64 ((beatS (code, a, sd) most).fst.snd), .int .i64 ((1 : Int)), .int .i64 ((4 : Int)), .int .i64 ((48 : Int) + (pickS (beatS (beatS (code, a, sd) most).snd (3 : Int)).snd (25 : Int)).fst), .int .i64 ((1 : Int) + (pickS (pickS (beatS (beatS (code, a, sd) most).snd (3 : Int)).snd (25 : Int)).snd (127 : Int)).fst), .int .i64 ((amongS (pickS (pickS (beatS (beatS (code, a, sd) most).snd (3 : Int)).snd (25 : Int)).snd (127 : Int)).snd [(0 : Int), (0 : Int), (0 : Int), (1 : Int), (15 : Int)]).fst)]], ⟨(Ty.int IntKind.u8).seq.pair ((Ty.int IntKind.i64).pair (Ty.int IntKind.u64)), (amongS (pickS (pickS (beatS (beatS (code, a, sd) most).snd (3 : Int)).snd (25 : Int)).snd (127 : Int)).snd [(0 : Int), (0 : Int), (0 : Int), (1 : Int), (15 : Int)]).snd⟩))))))) (.need (okS (beatS (beatS (code, a, sd) most).snd (3 : Int)).snd (900000000 : Int) ∧ (25 : Int) ≤ (1000000 : Int)) (.need (inK IntKind.i64 ((48 : Int) + (pickS (beatS (beatS (code, a, sd) most).snd (3 : Int)).snd (25 : Int)).fst)) (.need (okS (pickS (beatS (beatS (code, a, sd) most).snd (3 : Int)).snd (25 : Int)).snd (900000000 : Int) ∧ (127 : Int) ≤ (1000000 : Int)) (.need (inK IntKind.i64 ((1 : Int) + (pickS (pickS (beatS (beatS (code, a, sd) most).snd (3 : Int)).snd (25 : Int)).snd (127 : Int)).fst)) (.need (okS (pickS (pickS (beatS (beatS (code, a, sd) most).snd (3 : Int)).snd (25 : Int)).snd (127 : Int)).snd (900000000 : Int) ∧ (1 : Int) ≤ (↑[(0 : Int), (0 : Int), (0 : Int), (1 : Int), (15 : Int)].length : Int) ∧ (↑[(0 : Int), (0 : Int), (0 : Int), (1 : Int), (15 : Int)].length : Int) ≤ (1000000 : Int)) (.leaf ([.agg [.int .i64 ((beatS (code, a, sd) most).fst.fst), .int .i64 ((beatS (code, a, sd) most).fst.snd), .int .i64 ((beatS (beatS (code, a, sd) most).snd (3 : Int)).fst.fst), .int .i64 ((beatS (beatS (code, a, sd) most).snd (3 : Int)).fst.snd), .int .i64 ((48 : Int) + (pickS (beatS (beatS (code, a, sd) most).snd (3 : Int)).snd (25 : Int)).fst), .int .i64 ((1 : Int) + (pickS (pickS (beatS (beatS (code, a, sd) most).snd (3 : Int)).snd (25 : Int)).snd (127 : Int)).fst), .int .i64 ((amongS (pickS (pickS (beatS (beatS (code, a, sd) most).snd (3 : Int)).snd (25 : Int)).snd (127 : Int)).snd [(0 : Int), (0 : Int), (0 : Int), (1 : Int), (15 : Int)]).fst)]], ⟨(Ty.int IntKind.u8).seq.pair ((Ty.int IntKind.i64).pair (Ty.int IntKind.u64)), (amongS (pickS (pickS (beatS (beatS (code, a, sd) most).snd (3 : Int)).snd (25 : Int)).snd (127 : Int)).snd [(0 : Int), (0 : Int), (0 : Int), (1 : Int), (15 : Int)]).snd⟩))))))))) := by kernel_rfl
  refine (congrArg (Tree.ok _) htree).mpr ?_
  clear htree
  have ec : ∀ s : Src, amongS s [0, 0, 0, 1, 15] = amongS s chanL := fun _ => rfl
  have el : ([0, 0, 0, 1, 15] : List Int).length = 5 := rfl
  have eta : ∀ s : Src, (s.1, s.2.1, s.2.2) = s := fun _ => rfl
  have h1 := beatS_ok hp.1 most
  have h2 := lenS_ok h1
  have h3 := pickS_ok h2 25
  have b3 := pickS_bd h2 25
  have h4 := pickS_ok h3 127
  have b4 := pickS_bd h3 127
  have eN : noteS (code, a, sd) most = (((beatS (code, a, sd) most).1, (lenS (beatS (code, a, sd) most).2).1, 48 + (pickS (lenS (beatS (code, a, sd) most).2).2 25).1, 1 + (pickS (pickS (lenS (beatS (code, a, sd) most).2).2 25).2 127).1,
      (amongS (pickS (pickS (lenS (beatS (code, a, sd) most).2).2 25).2 127).2 chanL).1), (amongS (pickS (pickS (lenS (beatS (code, a, sd) most).2).2 25).2 127).2 chanL).2) := rfl
  have eL : ∀ s : Src, lenS s = (if (beatS s 3).1.1 = 0 then (1, 4) else (beatS s 3).1, (beatS s 3).2) := fun _ => rfl
  rw [eL] at h2 h3 h4 b3 b4 eN
  simp only [Tree.ok, tyd_inj, packAV, AV.same, AV.same.sameL, encV, encS, enc, inK, Nd.ok, List.headD_cons, List.cons_append, List.nil_append, List.append_nil, true_and, and_true, Bool.true_and, Bool.and_true, ec, el, eta, eN, beq_iff_eq, beq_eq_false_iff_ne, ne_eq]
  clear eN eL
  generalize beatS (code, a, sd) most = A at *
  generalize beatS A.2 3 = L at *
  simp only at *
  generalize pickS L.2 25 = K at *
  generalize pickS K.2 127 = V at *
  generalize amongS V.2 chanL = C at *
  have h0 := hp.1.mono (show (700000000 : Int) ≤ 800000000 by omega)
  have g1 := h1.mono (show (700000000 : Int) + 4 ≤ 800000000 by omega)
  have g2 := h2.mono (show (700000000 : Int) + 4 + 4 ≤ 900000000 by omega)
  have g3 := h3.mono (show (700000000 : Int) + 4 + 4 + 2 ≤ 900000000 by omega)
  have g4 := h4.mono (show (700000000 : Int) + 4 + 4 + 2 + 2 ≤ 900000000 by omega)
  clear h1 h2 h3 h4
  by_cases hz : L.1.1 = 0
  · simp only [if_pos hz]
    repeat' first | apply And.intro | intro _
    all_goals first | omega | exact h0 | exact g1 | exact g2 | exact g3 | exact g4 | trivial | rfl | contradiction
  · simp only [if_neg hz]
    repeat' first | apply And.intro | intro _
    all_goals first | omega | exact h0 | exact g1 | exact g2 | exact g3 | exact g4 | trivial | rfl | contradiction
def C_Dn_1 : FuncId → Option Ct := addC 153 ct_l18DrawNote C_Ds
theorem C_Dn_1_ok : COk Try.prog C_Dn_1 := addC_ok C_Ds_ok sat_l18DrawNote

def C_Dn : FuncId → Option Ct := C_Dn_1
theorem C_Dn_ok : COk Try.prog C_Dn := C_Dn_1_ok
end Go.Proofs.Ytjgjcggecikdpaa
