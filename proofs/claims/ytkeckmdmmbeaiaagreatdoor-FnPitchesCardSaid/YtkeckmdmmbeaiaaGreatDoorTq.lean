/- The law on pitches and the intervals between them. Conditions: as each says. -/
import Derived.Test.YtkeckmdmmbeaiaaGreatDoorDp
import Derived.Test.YtkeckmdmmbeaiaaGreatDoorUe
import Derived.Test.YtkeckmdmmbeaiaaGreatDoorUq
set_option linter.unusedSimpArgs false
set_option linter.unusedVariables false
namespace Go.Proofs.YtkeckmdmmbeaiaaGreatDoor
open Go.RowKit Sx
set_option maxRecDepth 100000
set_option maxHeartbeats 1000000
def C_TqB : FuncId → Option Ct := addC 33 ct_iReadPitch (addC 34 ct_iPitchText (addC 38 ct_iReadInterval (addC 39 ct_iIntervalName C_Dp)))
theorem C_TqB_ok : COk Tryz.prog C_TqB := addC_ok (addC_ok (addC_ok (addC_ok C_Dp_ok sat_iIntervalName) sat_iReadInterval) sat_iPitchText) sat_iReadPitch
theorem qual_inj {n d e : Int} (hn : 0 ≤ n ∧ n ≤ 28) (hd : -3 ≤ d ∧ d ≤ 3) (he : -3 ≤ e ∧ e ≤ 3) : (qualI n (natF n + d) = qualI n (natF n + e) → d = e) ∧ [45] ++ qualI n (natF n + d) ≠ qualI n (natF n + e) := by
  have key : ∀ n : Fin 29, ∀ d e : Fin 7, (qualI (n.1 : Int) (natF (n.1 : Int) + ((d.1 : Int) - 3)) = qualI (n.1 : Int) (natF (n.1 : Int) + ((e.1 : Int) - 3)) → d = e) ∧ [45] ++ qualI (n.1 : Int) (natF (n.1 : Int) + ((d.1 : Int) - 3)) ≠ qualI (n.1 : Int) (natF (n.1 : Int) + ((e.1 : Int) - 3)) := by decide +kernel
  have k := key ⟨n.toNat, by omega⟩ ⟨(d + 3).toNat, by omega⟩ ⟨(e + 3).toNat, by omega⟩
  simp only [show ((n.toNat : Nat) : Int) = n by omega, show (((d + 3).toNat : Nat) : Int) - 3 = d by omega, show (((e + 3).toNat : Nat) : Int) - 3 = e by omega, Fin.mk.injEq] at k
  exact ⟨fun h => by have := k.1 h; omega, k.2⟩
theorem name_up {n d : Int} (hn : 0 ≤ n) : nameI n d = qualI n d ++ decT (n + 1) := by unfold nameI; rw [if_neg (by omega)]
theorem name_dn {n d : Int} (hn : 0 < n) : nameI (-n) (-d) = [45] ++ qualI n d ++ decT (n + 1) := by
  unfold nameI; rw [if_pos (by omega), Int.neg_neg, Int.neg_neg, List.append_assoc]
theorem hit_up {n d e : Int} (hn : 0 ≤ n ∧ n ≤ 28) (hd : -3 ≤ d ∧ d ≤ 3) (he : -3 ≤ e ∧ e ≤ 3) : hitI (nameI n (natF n + d)) n e = if e = d then some (n, natF n + d) else none := by
  unfold hitI
  rw [name_up hn.1, name_up hn.1]
  by_cases h : e = d
  · subst h; rw [if_pos rfl, if_pos rfl]
  · rw [if_neg h, if_neg (fun c => h ((qual_inj hn he hd).1 (List.append_cancel_right c))), if_neg ?_]
    rintro ⟨h0, c⟩
    rw [name_dn h0] at c
    exact (qual_inj hn he hd).2 (List.append_cancel_right c)
theorem hit_dn {n d e : Int} (h0 : 0 < n) (hn : 0 ≤ n ∧ n ≤ 28) (hd : -3 ≤ d ∧ d ≤ 3) (he : -3 ≤ e ∧ e ≤ 3) : hitI (nameI (-n) (-(natF n + d))) n e = if e = d then some (-n, -(natF n + d)) else none := by
  unfold hitI
  rw [name_dn h0, name_dn h0, name_up hn.1]
  rw [if_neg (fun c => (qual_inj hn hd he).2 (List.append_cancel_right c).symm)]
  by_cases h : e = d
  · subst h; rw [if_pos ⟨h0, rfl⟩, if_pos rfl]
  · rw [if_neg h, if_neg ?_]
    rintro ⟨_, c⟩
    exact h ((qual_inj hn he hd).1 (List.append_cancel_left (List.append_cancel_right c)))
theorem inI_of {s : List UInt8} {n d : Int} {x : Int × Int} (h : ∀ e : Int, -3 ≤ e → e ≤ 3 → hitI s n e = if e = d then some x else none) : ∀ (k : Nat) (e : Int), -3 ≤ e → e + k = 4 → e ≤ d → d ≤ 3 → inI s n k e = some x
  | 0, e, _, h2, h3, h4 => by omega
  | k + 1, e, h1, h2, h3, h4 => by
    rw [inI, h e h1 (by omega)]
    by_cases he : e = d
    · rw [if_pos he]
    · rw [if_neg he]
      exact inI_of h k (e + 1) (by omega) (by omega) (by omega) h4
theorem read_name {a b : Int} (h : okI a b = true) : outI (nameI a b) 29 0 = some (a, b) := by
  have hb := okI_bd h
  simp only [okI, Bool.and_eq_true, inB_iff, overF] at h
  obtain ⟨-, -, ho⟩ := h
  by_cases ha : a < 0
  · rw [if_pos ha] at ho
    obtain ⟨n, rfl⟩ : ∃ n, a = -n := ⟨-a, by omega⟩
    rw [Int.neg_neg] at ho
    obtain ⟨d, rfl⟩ : ∃ d, b = -(natF n + d) := ⟨-b - natF n, by omega⟩
    have hd : -3 ≤ d ∧ d ≤ 3 := by omega
    have hn : 0 ≤ n ∧ n ≤ 28 := by omega
    have ht := (name_told hn hd).2 (by omega)
    obtain ⟨g1, g2, g3⟩ := told_read hn ht
    rw [outI_eq, g1, if_pos ⟨⟨g2, g3⟩, rfl, by simp only; omega, by simp only; omega⟩]
    simp only [Int.add_sub_cancel]
    exact inI_of (fun e h1 h2 => hit_dn (by omega) hn hd ⟨h1, h2⟩) 7 (-3) (by omega) (by omega) (by omega) (by omega)
  · rw [if_neg ha] at ho
    obtain ⟨d, rfl⟩ : ∃ d, b = natF a + d := ⟨b - natF a, by omega⟩
    have hd : -3 ≤ d ∧ d ≤ 3 := by omega
    have hn : 0 ≤ a ∧ a ≤ 28 := by omega
    have ht := (name_told hn hd).1
    obtain ⟨g1, g2, g3⟩ := told_read hn ht
    rw [outI_eq, g1, if_pos ⟨⟨g2, g3⟩, rfl, by simp only; omega, by simp only; omega⟩]
    simp only [Int.add_sub_cancel]
    exact inI_of (fun e h1 h2 => hit_up hn hd ⟨h1, h2⟩) 7 (-3) (by omega) (by omega) (by omega) (by omega)
def betP (p q : Int × Int × Int) : (Int × Int) × Int := betF p.1 p.2.1 p.2.2 q.1 q.2.1 q.2.2
def dstP (p q : Int × Int × Int) : Int := 7 * q.2.2 + q.1 - (7 * p.2.2 + p.1)
def difP (p q : Int × Int × Int) : Int := keyF q.1 q.2.1 q.2.2 - keyF p.1 p.2.1 p.2.2
theorem bet_cases {p q : Int × Int × Int} (hp : okP p.1 p.2.1 p.2.2 = true) (hq : okP q.1 q.2.1 q.2.2 = true) :
    (okI (dstP p q) (difP p q) = false ∧ betF p.1 p.2.1 p.2.2 q.1 q.2.1 q.2.2 = ((0, 0), 2)) ∨ (okI (dstP p q) (difP p q) = true ∧ betF p.1 p.2.1 p.2.2 q.1 q.2.1 q.2.2 = ((dstP p q, difP p q), 0)) := by
  unfold betF
  rw [if_pos ⟨hp, hq⟩]
  show (_ ∧ toldI (dstP p q) (difP p q) = _) ∨ (_ ∧ toldI (dstP p q) (difP p q) = _)
  unfold toldI
  cases h : okI (dstP p q) (difP p q)
  · exact .inl ⟨rfl, by rw [if_neg (by simp)]⟩
  · exact .inr ⟨rfl, by rw [if_pos rfl]⟩
theorem mv_bet {p q : Int × Int × Int} (hp : okP p.1 p.2.1 p.2.2 = true) (hq : okP q.1 q.2.1 q.2.2 = true) (h : okI (dstP p q) (difP p q) = true) : moveF p.1 p.2.1 p.2.2 (dstP p q) (difP p q) = (q, 0) := by
  obtain ⟨s, a, o⟩ := q
  have hb := okP_bd hq
  simp only at hq hb
  have e1 : mvN p.1 p.2.2 (dstP p (s, a, o)) = 7 * o + s := by simp only [mvN, dstP]; omega
  have e2 : (7 * o + s) % 7 = s := by omega
  have e3 : (7 * o + s) / 7 = o := by omega
  have e4 : mvA p.1 p.2.1 p.2.2 (dstP p (s, a, o)) (difP p (s, a, o)) = a := by
    simp only [mvA, e1, e2, e3, difP, keyF]; omega
  unfold moveF
  rw [if_pos ⟨hp, h⟩, e1, e2, e3, e4, if_pos hq]
theorem dst_back (p q : Int × Int × Int) : dstP q p = -dstP p q ∧ difP q p = -difP p q := by unfold dstP difP; omega
theorem dst_sum (p q r : Int × Int × Int) : dstP p q + dstP q r = dstP p r ∧ difP p q + difP q r = difP p r := by unfold dstP difP; omega
theorem pitT_len {p : Int × Int × Int} (h : okP p.1 p.2.1 p.2.2 = true) : (pitT p).length ≤ 2000000 := by
  obtain ⟨a, b, c⟩ := p
  have hb := okP_bd h
  simp only at hb
  have l2 := decT_len (n := c) (by omega)
  rw [pitT_eq hb.1, List.length_cons, List.length_append, marks_len]
  omega
def ct_lawPitches : Ct := ctOf [.v (.seq (.int .u8))] (fun ((code : List (Ty.int .u8).den), _) => .p (bytesOk code)) (fun ((code : List (Ty.int .u8).den), _) => .bool true)
set_option maxHeartbeats 1000000 in
theorem sat_lawPitches : Sat Tryz.prog 6 ct_lawPitches := by
  refine sat_typed (C := C_TqB) (L := noL) (wr := false) mixedOk Tryz.func6 C_TqB_ok (loops0 (by kernel_rfl)) (fun _ => by first | rfl | (simp [ownsOf, ownsOf.ownsL, enc, encV, encS])) fun x hp => ?_
  obtain ⟨(code : List (Ty.int .u8).den), _⟩ := x
  replace hp : bytesOk code := hp
  have htree : exFunc Tryz.prog C_TqB false noL Tryz.f6 (encA [.v (.seq (.int .u8))] (code, ())) = .ite (decide ((3000 : Int) < (↑code.length : Int)) || decide ((3000 : Int) < (↑(0 : Nat) : Int))) (.leaf [.lit true]) (.need (bytesOk code) (.need ((if okP (pit1 code).fst (pit1 code).snd.fst (pit1 code).snd.snd = true then pitT ((pit1 code).fst, (pit1 code).snd.fst, (pit1 code).snd.snd) else []).length ≤ (2000000 : Nat)) (.ite (!(rdPitI (if okP (pit1 code).fst (pit1 code).snd.fst (pit1 code).snd.snd = true then pitT ((pit1 code).fst, (pit1 code).snd.fst, (pit1 code).snd.snd) else [])).snd) (.leaf [.lit false]) (.ite (!((rdPitI (if okP (pit1 code).fst (pit1 code).snd.fst (pit1 code).snd.snd = true then pitT ((pit1 code).fst, (pit1 code).snd.fst, (pit1 code).snd.snd) else [])).fst.fst == (pit1 code).fst && ((rdPitI (if okP (pit1 code).fst (pit1 code).snd.fst (pit1 code).snd.snd = true then pitT ((pit1 code).fst, (pit1 code).snd.fst, (pit1 code).snd.snd) else [])).fst.snd.fst == (pit1 code).snd.fst && (rdPitI (if okP (pit1 code).fst (pit1 code).snd.fst (pit1 code).snd.snd = true then pitT ((pit1 code).fst, (pit1 code).snd.fst, (pit1 code).snd.snd) else [])).fst.snd.snd == (pit1 code).snd.snd))) (.leaf [.lit false]) (.ite (decide ((if okP (pit1 code).fst (pit1 code).snd.fst (pit1 code).snd.snd = true then keyF (pit1 code).fst (pit1 code).snd.fst (pit1 code).snd.snd else (-1 : Int)) < (0 : Int))) (.leaf [.lit false]) (.ite (decide ((127 : Int) < if okP (pit1 code).fst (pit1 code).snd.fst (pit1 code).snd.snd = true then keyF (pit1 code).fst (pit1 code).snd.fst (pit1 code).snd.snd else (-1 : Int))) (.leaf [.lit false]) (.ite ((betF (pit1 code).fst (pit1 code).snd.fst (pit1 code).snd.snd (pit2 code).fst (pit2 code).snd.fst (pit2 code).snd.snd).snd != (0 : Int)) (.leaf [.bool ((betF (pit1 code).fst (pit1 code).snd.fst (pit1 code).snd.snd (pit2 code).fst (pit2 code).snd.fst (pit2 code).snd.snd).snd == (2 : Int))]) (.ite ((betF (pit2 code).fst (pit2 code).snd.fst (pit2 code).snd.snd (pit1 code).fst (pit1 code).snd.fst (pit1 code).snd.snd).snd != (0 : Int)) (.leaf [.lit false]) (.ite ((moveF (pit1 code).fst (pit1 code).snd.fst (pit1 code).snd.snd (betF (pit1 code).fst (pit1 code).snd.fst (pit1 code).snd.snd (pit2 code).fst (pit2 code).snd.fst (pit2 code).snd.snd).fst.fst (betF (pit1 code).fst (pit1 code).snd.fst (pit1 code).snd.snd (pit2 code).fst (pit2 code).snd.fst (pit2 code).snd.snd).fst.snd).snd != (0 : Int)) (.leaf [.lit false]) (.ite ((moveF (moveF (pit1 code).fst (pit1 code).snd.fst (pit1 code).snd.snd (betF (pit1 code).fst (pit1 code).snd.fst (pit1 code).snd.snd (pit2 code).fst (pit2 code).snd.fst (pit2 code).snd.snd).fst.fst (betF (pit1 code).fst (pit1 code).snd.fst (pit1 code).snd.snd (pit2 code).fst (pit2 code).snd.fst (pit2 code).snd.snd).fst.snd).fst.fst (moveF (pit1 code).fst (pit1 code).snd.fst (pit1 code).snd.snd (betF (pit1 code).fst (pit1 code).snd.fst (pit1 code).snd.snd (pit2 code).fst (pit2 code).snd.fst (pit2 code).snd.snd).fst.fst (betF (pit1 code).fst (pit1 code).snd.fst (pit1 code).snd.snd (pit2 code).fst (pit2 code).snd.fst (pit2 code).snd.snd).fst.snd).fst.snd.fst (moveF (pit1 code).fst (pit1 code).snd.fst (pit1 code).snd.snd (betF (pit1 code).fst (pit1 code).snd.fst (pit1 code).snd.snd (pit2 code).fst (pit2 code).snd.fst (pit2 code).snd.snd).fst.fst (betF (pit1 code).fst (pit1 code).snd.fst (pit1 code).snd.snd (pit2 code).fst (pit2 code).snd.fst (pit2 code).snd.snd).fst.snd).fst.snd.snd (betF (pit2 code).fst (pit2 code).snd.fst (pit2 code).snd.snd (pit1 code).fst (pit1 code).snd.fst (pit1 code).snd.snd).fst.fst (betF (pit2 code).fst (pit2 code).snd.fst (pit2 code).snd.snd (pit1 code).fst (pit1 code).snd.fst (pit1 code).snd.snd).fst.snd).snd != (0 : Int)) (.leaf [.lit false]) (.ite (!((moveF (pit1 code).fst (pit1 code).snd.fst (pit1 code).snd.snd (betF (pit1 code).fst (pit1 code).snd.fst (pit1 code).snd.snd (pit2 code).fst (pit2 code).snd.fst (pit2 code).snd.snd).fst.fst (betF (pit1 code).fst (pit1 code).snd.fst (pit1 code).snd.snd (pit2 code).fst (pit2 code).snd.fst (pit2 code).snd.snd).fst.snd).fst.fst == (pit2 code).fst && ((moveF (pit1 code).fst (pit1 code).snd.fst (pit1 code).snd.snd (betF (pit1 code).fst (pit1 code).snd.fst (pit1 code).snd.snd (pit2 code).fst (pit2 code).snd.fst (pit2 code).snd.snd).fst.fst (betF (pit1 code).fst (pit1 code).snd.fst (pit1 code).snd.snd (pit2 code).fst (pit2 code).snd.fst (pit2 code).snd.snd).fst.snd).fst.snd.fst == (pit2 code).snd.fst && (moveF (pit1 code).fst (pit1 code).snd.fst (pit1 code).snd.snd (betF (pit1 code).fst (pit1 code).snd.fst (pit1 code).snd.snd (pit2 code).fst (pit2 code).snd.fst (pit2 code).snd.snd).fst.fst (betF (pit1 code).fst (pit1 code).snd.fst (pit1 code).snd.snd (pit2 code).fst (pit2 code).snd.fst (pit2 code).snd.snd).fst.snd).fst.snd.snd == (pit2 code).snd.snd))) (.leaf [.lit false]) (.ite (!((moveF (moveF (pit1 code).fst (pit1 code).snd.fst (pit1 code).snd.snd (betF (pit1 code).fst (pit1 code).snd.fst (pit1 code).snd.snd (pit2 code).fst (pit2 code).snd.fst (pit2 code).snd.snd).fst.fst (betF (pit1 code).fst (pit1 code).snd.fst (pit1 code).snd.snd (pit2 code).fst (pit2 code).snd.fst (pit2 code).snd.snd).fst.snd).fst.fst (moveF (pit1 code).fst (pit1 code).snd.fst (pit1 code).snd.snd (betF (pit1 code).fst (pit1 code).snd.fst (pit1 code).snd.snd (pit2 code).fst (pit2 code).snd.fst (pit2 code).snd.snd).fst.fst (betF (pit1 code).fst (pit1 code).snd.fst (pit1 code).snd.snd (pit2 code).fst (pit2 code).snd.fst (pit2 code).snd.snd).fst.snd).fst.snd.fst (moveF (pit1 code).fst (pit1 code).snd.fst (pit1 code).snd.snd (betF (pit1 code).fst (pit1 code).snd.fst (pit1 code).snd.snd (pit2 code).fst (pit2 code).snd.fst (pit2 code).snd.snd).fst.fst (betF (pit1 code).fst (pit1 code).snd.fst (pit1 code).snd.snd (pit2 code).fst (pit2 code).snd.fst (pit2 code).snd.snd).fst.snd).fst.snd.snd (betF (pit2 code).fst (pit2 code).snd.fst (pit2 code).snd.snd (pit1 code).fst (pit1 code).snd.fst (pit1 code).snd.snd).fst.fst (betF (pit2 code).fst (pit2 code).snd.fst (pit2 code).snd.snd (pit1 code).fst (pit1 code).snd.fst (pit1 code).snd.snd).fst.snd).fst.fst == (pit1 code).fst && ((moveF (moveF (pit1 code).fst (pit1 code).snd.fst (pit1 code).snd.snd (betF (pit1 code).fst (pit1 code).snd.fst (pit1 code).snd.snd (pit2 code).fst (pit2 code).snd.fst (pit2 code).snd.snd).fst.fst (betF (pit1 code).fst (pit1 code).snd.fst (pit1 code).snd.snd (pit2 code).fst (pit2 code).snd.fst (pit2 code).snd.snd).fst.snd).fst.fst (moveF (pit1 code).fst (pit1 code).snd.fst (pit1 code).snd.snd (betF (pit1 code).fst (pit1 code).snd.fst (pit1 code).snd.snd (pit2 code).fst (pit2 code).snd.fst (pit2 code).snd.snd).fst.fst (betF (pit1 code).fst (pit1 code).snd.fst (pit1 code).snd.snd (pit2 code).fst (pit2 code).snd.fst (pit2 code).snd.snd).fst.snd).fst.snd.fst (moveF (pit1 code).fst (pit1 code).snd.fst (pit1 code).snd.snd (betF (pit1 code).fst (pit1 code).snd.fst (pit1 code).snd.snd (pit2 code).fst (pit2 code).snd.fst (pit2 code).snd.snd).fst.fst (betF (pit1 code).fst (pit1 code).snd.fst (pit1 code).snd.snd (pit2 code).fst (pit2 code).snd.fst (pit2 code).snd.snd).fst.snd).fst.snd.snd (betF (pit2 code).fst (pit2 code).snd.fst (pit2 code).snd.snd (pit1 code).fst (pit1 code).snd.fst (pit1 code).snd.snd).fst.fst (betF (pit2 code).fst (pit2 code).snd.fst (pit2 code).snd.snd (pit1 code).fst (pit1 code).snd.fst (pit1 code).snd.snd).fst.snd).fst.snd.fst == (pit1 code).snd.fst && (moveF (moveF (pit1 code).fst (pit1 code).snd.fst (pit1 code).snd.snd (betF (pit1 code).fst (pit1 code).snd.fst (pit1 code).snd.snd (pit2 code).fst (pit2 code).snd.fst (pit2 code).snd.snd).fst.fst (betF (pit1 code).fst (pit1 code).snd.fst (pit1 code).snd.snd (pit2 code).fst (pit2 code).snd.fst (pit2 code).snd.snd).fst.snd).fst.fst (moveF (pit1 code).fst (pit1 code).snd.fst (pit1 code).snd.snd (betF (pit1 code).fst (pit1 code).snd.fst (pit1 code).snd.snd (pit2 code).fst (pit2 code).snd.fst (pit2 code).snd.snd).fst.fst (betF (pit1 code).fst (pit1 code).snd.fst (pit1 code).snd.snd (pit2 code).fst (pit2 code).snd.fst (pit2 code).snd.snd).fst.snd).fst.snd.fst (moveF (pit1 code).fst (pit1 code).snd.fst (pit1 code).snd.snd (betF (pit1 code).fst (pit1 code).snd.fst (pit1 code).snd.snd (pit2 code).fst (pit2 code).snd.fst (pit2 code).snd.snd).fst.fst (betF (pit1 code).fst (pit1 code).snd.fst (pit1 code).snd.snd (pit2 code).fst (pit2 code).snd.fst (pit2 code).snd.snd).fst.snd).fst.snd.snd (betF (pit2 code).fst (pit2 code).snd.fst (pit2 code).snd.snd (pit1 code).fst (pit1 code).snd.fst (pit1 code).snd.snd).fst.fst (betF (pit2 code).fst (pit2 code).snd.fst (pit2 code).snd.snd (pit1 code).fst (pit1 code).snd.fst (pit1 code).snd.snd).fst.snd).fst.snd.snd == (pit1 code).snd.snd))) (.leaf [.lit false]) (.ite (!(outI (if okI (betF (pit1 code).fst (pit1 code).snd.fst (pit1 code).snd.snd (pit2 code).fst (pit2 code).snd.fst (pit2 code).snd.snd).fst.fst (betF (pit1 code).fst (pit1 code).snd.fst (pit1 code).snd.snd (pit2 code).fst (pit2 code).snd.fst (pit2 code).snd.snd).fst.snd = true then nameI (betF (pit1 code).fst (pit1 code).snd.fst (pit1 code).snd.snd (pit2 code).fst (pit2 code).snd.fst (pit2 code).snd.snd).fst.fst (betF (pit1 code).fst (pit1 code).snd.fst (pit1 code).snd.snd (pit2 code).fst (pit2 code).snd.fst (pit2 code).snd.snd).fst.snd else []) (29 : Nat) (0 : Int)).isSome) (.leaf [.lit false]) (.ite (!((orZ (outI (if okI (betF (pit1 code).fst (pit1 code).snd.fst (pit1 code).snd.snd (pit2 code).fst (pit2 code).snd.fst (pit2 code).snd.snd).fst.fst (betF (pit1 code).fst (pit1 code).snd.fst (pit1 code).snd.snd (pit2 code).fst (pit2 code).snd.fst (pit2 code).snd.snd).fst.snd = true then nameI (betF (pit1 code).fst (pit1 code).snd.fst (pit1 code).snd.snd (pit2 code).fst (pit2 code).snd.fst (pit2 code).snd.snd).fst.fst (betF (pit1 code).fst (pit1 code).snd.fst (pit1 code).snd.snd (pit2 code).fst (pit2 code).snd.fst (pit2 code).snd.snd).fst.snd else []) (29 : Nat) (0 : Int))).fst == (betF (pit1 code).fst (pit1 code).snd.fst (pit1 code).snd.snd (pit2 code).fst (pit2 code).snd.fst (pit2 code).snd.snd).fst.fst && (orZ (outI (if okI (betF (pit1 code).fst (pit1 code).snd.fst (pit1 code).snd.snd (pit2 code).fst (pit2 code).snd.fst (pit2 code).snd.snd).fst.fst (betF (pit1 code).fst (pit1 code).snd.fst (pit1 code).snd.snd (pit2 code).fst (pit2 code).snd.fst (pit2 code).snd.snd).fst.snd = true then nameI (betF (pit1 code).fst (pit1 code).snd.fst (pit1 code).snd.snd (pit2 code).fst (pit2 code).snd.fst (pit2 code).snd.snd).fst.fst (betF (pit1 code).fst (pit1 code).snd.fst (pit1 code).snd.snd (pit2 code).fst (pit2 code).snd.fst (pit2 code).snd.snd).fst.snd else []) (29 : Nat) (0 : Int))).snd == (betF (pit1 code).fst (pit1 code).snd.fst (pit1 code).snd.snd (pit2 code).fst (pit2 code).snd.fst (pit2 code).snd.snd).fst.snd)) (.leaf [.lit false]) (.need (inK IntKind.i64 ((0 : Int) - (betF (pit1 code).fst (pit1 code).snd.fst (pit1 code).snd.snd (pit2 code).fst (pit2 code).snd.fst (pit2 code).snd.snd).fst.fst)) (.ite ((betF (pit2 code).fst (pit2 code).snd.fst (pit2 code).snd.snd (pit1 code).fst (pit1 code).snd.fst (pit1 code).snd.snd).fst.fst != (0 : Int) - (betF (pit1 code).fst (pit1 code).snd.fst (pit1 code).snd.snd (pit2 code).fst (pit2 code).snd.fst (pit2 code).snd.snd).fst.fst) (.leaf [.lit false]) (.need (inK IntKind.i64 ((0 : Int) - (betF (pit1 code).fst (pit1 code).snd.fst (pit1 code).snd.snd (pit2 code).fst (pit2 code).snd.fst (pit2 code).snd.snd).fst.snd)) (.ite ((betF (pit2 code).fst (pit2 code).snd.fst (pit2 code).snd.snd (pit1 code).fst (pit1 code).snd.fst (pit1 code).snd.snd).fst.snd != (0 : Int) - (betF (pit1 code).fst (pit1 code).snd.fst (pit1 code).snd.snd (pit2 code).fst (pit2 code).snd.fst (pit2 code).snd.snd).fst.snd) (.leaf [.lit false]) (.need (inK IntKind.i64 ((if okP (pit1 code).fst (pit1 code).snd.fst (pit1 code).snd.snd = true then keyF (pit1 code).fst (pit1 code).snd.fst (pit1 code).snd.snd else (-1 : Int)) + (betF (pit1 code).fst (pit1 code).snd.fst (pit1 code).snd.snd (pit2 code).fst (pit2 code).snd.fst (pit2 code).snd.snd).fst.snd)) (.ite ((if okP (pit2 code).fst (pit2 code).snd.fst (pit2 code).snd.snd = true then keyF (pit2 code).fst (pit2 code).snd.fst (pit2 code).snd.snd else (-1 : Int)) != (if okP (pit1 code).fst (pit1 code).snd.fst (pit1 code).snd.snd = true then keyF (pit1 code).fst (pit1 code).snd.fst (pit1 code).snd.snd else (-1 : Int)) + (betF (pit1 code).fst (pit1 code).snd.fst (pit1 code).snd.snd (pit2 code).fst (pit2 code).snd.fst (pit2 code).snd.snd).fst.snd) (.leaf [.lit false]) (.ite ((betF (pit2 code).fst (pit2 code).snd.fst (pit2 code).snd.snd (pit3 code).fst (pit3 code).snd.fst (pit3 code).snd.snd).snd != (0 : Int)) (.leaf [.bool ((betF (pit2 code).fst (pit2 code).snd.fst (pit2 code).snd.snd (pit3 code).fst (pit3 code).snd.fst (pit3 code).snd.snd).snd == (2 : Int))]) (.ite ((sumF (betF (pit1 code).fst (pit1 code).snd.fst (pit1 code).snd.snd (pit2 code).fst (pit2 code).snd.fst (pit2 code).snd.snd).fst.fst (betF (pit1 code).fst (pit1 code).snd.fst (pit1 code).snd.snd (pit2 code).fst (pit2 code).snd.fst (pit2 code).snd.snd).fst.snd (betF (pit2 code).fst (pit2 code).snd.fst (pit2 code).snd.snd (pit3 code).fst (pit3 code).snd.fst (pit3 code).snd.snd).fst.fst (betF (pit2 code).fst (pit2 code).snd.fst (pit2 code).snd.snd (pit3 code).fst (pit3 code).snd.fst (pit3 code).snd.snd).fst.snd).snd == (betF (pit1 code).fst (pit1 code).snd.fst (pit1 code).snd.snd (pit3 code).fst (pit3 code).snd.fst (pit3 code).snd.snd).snd) (.leaf [.bool ((sumF (betF (pit1 code).fst (pit1 code).snd.fst (pit1 code).snd.snd (pit2 code).fst (pit2 code).snd.fst (pit2 code).snd.snd).fst.fst (betF (pit1 code).fst (pit1 code).snd.fst (pit1 code).snd.snd (pit2 code).fst (pit2 code).snd.fst (pit2 code).snd.snd).fst.snd (betF (pit2 code).fst (pit2 code).snd.fst (pit2 code).snd.snd (pit3 code).fst (pit3 code).snd.fst (pit3 code).snd.snd).fst.fst (betF (pit2 code).fst (pit2 code).snd.fst (pit2 code).snd.snd (pit3 code).fst (pit3 code).snd.fst (pit3 code).snd.snd).fst.snd).fst.fst == (betF (pit1 code).fst (pit1 code).snd.fst (pit1 code).snd.snd (pit3 code).fst (pit3 code).snd.fst (pit3 code).snd.snd).fst.fst && (sumF (betF (pit1 code).fst (pit1 code).snd.fst (pit1 code).snd.snd (pit2 code).fst (pit2 code).snd.fst (pit2 code).snd.snd).fst.fst (betF (pit1 code).fst (pit1 code).snd.fst (pit1 code).snd.snd (pit2 code).fst (pit2 code).snd.fst (pit2 code).snd.snd).fst.snd (betF (pit2 code).fst (pit2 code).snd.fst (pit2 code).snd.snd (pit3 code).fst (pit3 code).snd.fst (pit3 code).snd.snd).fst.fst (betF (pit2 code).fst (pit2 code).snd.fst (pit2 code).snd.snd (pit3 code).fst (pit3 code).snd.fst (pit3 code).snd.snd).fst.snd).fst.snd == (betF (pit1 code).fst (pit1 code).snd.fst (pit1 code).snd.snd (pit3 code).fst (pit3 code).snd.fst (pit3 code).snd.snd).fst.snd)]) (.leaf [.lit false]))))))))))))))))))))))) := by kernel_rfl
  refine (congrArg (Tree.ok _) htree).mpr ?_
  clear htree
  have h1 : okP (pit1 code).1 (pit1 code).2.1 (pit1 code).2.2 = true := pitS_bd _
  have h2 : okP (pit2 code).1 (pit2 code).2.1 (pit2 code).2.2 = true := pitS_bd _
  have h3 : okP (pit3 code).1 (pit3 code).2.1 (pit3 code).2.2 = true := pitS_bd _
  have eta : ∀ s : Int × Int × Int, (s.1, s.2.1, s.2.2) = s := fun _ => rfl
  have er := rdPitI_of h1
  have hl : (pitT (pit1 code)).length ≤ 2000000 := pitT_len h1
  simp only [Tree.ok, tyd_inj, packAV, AV.same, AV.same.sameL, encV, encS, enc, inK, Nd.ok, List.headD_cons, List.cons_append, List.nil_append, List.append_nil, true_and, and_true, Bool.true_and, Bool.and_true, h1, h2, h3, if_true, eta, er, beq_self_eq_true, Bool.and_self, Bool.not_true, Bool.false_eq_true, false_implies, true_implies]
  generalize pit1 code = p at *
  generalize pit2 code = q at *
  generalize pit3 code = r at *
  have kb := okP_bd h1
  clear er
  have kd1 : ¬ keyF p.1 p.2.1 p.2.2 < 0 := by omega
  have kd2 : ¬ 127 < keyF p.1 p.2.1 p.2.2 := by omega
  simp only [kd1, kd2, decide_false, Bool.false_eq_true, false_implies, true_implies]
  rcases bet_cases h1 h2 with ⟨-, e1⟩ | ⟨o1, e1⟩
  · simp only [e1]
    repeat' first | apply And.intro | intro _
    all_goals first | omega | exact hp | exact hp _ ‹_› | exact (hp _ ‹_›).1 | exact (hp _ ‹_›).2 | exact hl | trivial | rfl | contradiction | (simp_all; done) | (trace_state; fail)
  have o2 : okI (dstP q p) (difP q p) = true := by rw [(dst_back p q).1, (dst_back p q).2]; exact okI_neg o1
  have e2 : betF q.1 q.2.1 q.2.2 p.1 p.2.1 p.2.2 = ((dstP q p, difP q p), 0) := by
    rcases bet_cases h2 h1 with ⟨o, _⟩ | ⟨_, e⟩
    · rw [o2] at o; cases o
    · exact e
  have m1 := mv_bet h1 h2 o1
  have m2 := mv_bet h2 h1 o2
  have rn := read_name o1
  have ib := okI_bd o1
  have hb := dst_back p q
  have hs := dst_sum p q r
  have hk : keyF q.1 q.2.1 q.2.2 = keyF p.1 p.2.1 p.2.2 + difP p q := by unfold difP; omega
  have kq := okP_bd h2
  simp only [e1, e2, m1, m2, rn, o1, orZ, if_true, Option.isSome_some, hb.1, hb.2, hk, h2, beq_self_eq_true, Bool.and_self, Bool.not_true, Bool.false_eq_true, false_implies, true_implies]
  rcases bet_cases h2 h3 with ⟨-, e3⟩ | ⟨o3, e3⟩
  · simp only [e3]
    repeat' first | apply And.intro | intro _
    all_goals first | omega | exact hp | exact hp _ ‹_› | exact (hp _ ‹_›).1 | exact (hp _ ‹_›).2 | exact hl | trivial | rfl | contradiction | (simp_all; done) | (trace_state; fail)
  have e4 : betF p.1 p.2.1 p.2.2 r.1 r.2.1 r.2.2 = sumF (dstP p q) (difP p q) (dstP q r) (difP q r) := by
    unfold sumF
    rw [if_pos ⟨o1, o3⟩, hs.1, hs.2]
    unfold betF
    rw [if_pos ⟨h1, h3⟩]
    rfl
  have ib3 := okI_bd o3
  simp only [e3, e4]
  generalize sumF (dstP p q) (difP p q) (dstP q r) (difP q r) = v at *
  repeat' first | apply And.intro | intro _
  all_goals first | omega | exact hp | exact hp _ ‹_› | exact (hp _ ‹_›).1 | exact (hp _ ‹_›).2 | exact hl | trivial | rfl | contradiction | (simp_all; done) | (trace_state; fail)
def C_Tq_1 : FuncId → Option Ct := addC 6 ct_lawPitches C_TqB
theorem C_Tq_1_ok : COk Tryz.prog C_Tq_1 := addC_ok C_TqB_ok sat_lawPitches

def C_Tq : FuncId → Option Ct := C_Tq_1
theorem C_Tq_ok : COk Tryz.prog C_Tq := C_Tq_1_ok
end Go.Proofs.YtkeckmdmmbeaiaaGreatDoor
