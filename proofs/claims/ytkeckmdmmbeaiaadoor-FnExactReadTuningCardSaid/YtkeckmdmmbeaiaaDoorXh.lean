/- Contract: impl.ReadDecimal. Conditions: as it says. -/
import Derived.Test.YtkeckmdmmbeaiaaDoorXg
set_option linter.unusedSimpArgs false
set_option linter.unusedVariables false
namespace Go.Proofs.YtkeckmdmmbeaiaaDoor
open Go.RowKit Sx Go.Shelf
theorem below_inv {w w' : World} (h : Below w.heap.size w w') (hn : GN ≤ w.heap.size) (hi : Inv w) : Inv w' := Inv_keep (fun b hb => h.block b (Nat.lt_of_lt_of_le hb hn)) hi
/-- strconv.ParseInt: a number and no error, or an error. -/
theorem parseInt_any (s : List UInt8) (hl : s.length ≤ 100000000) (w : World) (hi : Inv w) :
    Calls Tryd.prog 141 #[.string ⟨s.toArray⟩, .int .i64 10, .int .i64 64] w fun e w' => Below w.heap.size w w' ∧
      ((∃ v, Go.Lib.parseIntB 64 s = .ok v ∧ e = .returned (.tuple #[.int .i64 v, .nilIface])) ∨ (∃ z t p, (∀ v, Go.Lib.parseIntB 64 s ≠ .ok v) ∧ e = .returned (.tuple #[.int .i64 z, .iface t p]))) := by
  have hs : (⟨s.toArray⟩ : ByteArray).size = s.length := size_mk s
  cases h : Go.Lib.parseIntB 64 s with
  | ok v =>
    refine Calls.mono (Any.strconv_ParseInt_10_at64_ok Tryd.pint ⟨s.toArray⟩ (by rw [hs]; omega) v h w) ?_
    rintro e w' ⟨rfl, hw⟩
    refine ⟨?_, .inl ⟨v, rfl, rfl⟩⟩
    rcases hw with rfl | ⟨t, rfl⟩
    · exact Below.refl _ _
    · exact ⟨rfl, rfl, rfl, by rw [Go.Lib.bytesWorld_size]; omega, fun j hj => Go.Lib.bytesWorld_at_old _ _ _ j hj⟩
  | «syntax» =>
    obtain ⟨ev, h1, h2⟩ := hi.2.2.1
    refine Calls.mono (Any.strconv_ParseInt_10_at64_syntax Tryd.pint ⟨s.toArray⟩ (by rw [hs]; omega) h ev w h1 h2) ?_
    rintro e w' ⟨N, rfl, _, _, hb⟩
    exact ⟨hb, .inr ⟨_, _, _, fun v hv => by simp at hv, rfl⟩⟩
  | range =>
    obtain ⟨ev, h1, h2⟩ := hi.2.2.2
    refine Calls.mono (Any.strconv_ParseInt_10_at64_range Tryd.pint ⟨s.toArray⟩ (by rw [hs]; omega) h ev w h1 h2) ?_
    rintro e w' ⟨N, rfl, _, _, hb⟩
    exact ⟨hb, .inr ⟨_, _, _, fun v hv => by simp at hv, rfl⟩⟩
/-- A contract whose result is a text, as the walks take it. -/
theorem decimal_any (n : Int) (h : -9223372036854775808 ≤ n ∧ n ≤ 9223372036854775807) (w : World) (hn : GN ≤ w.heap.size) (hi : Inv w) :
    Calls Tryd.prog 56 #[.int .i64 n] w fun e w' => e = .returned (.string ⟨(decT n).toArray⟩) ∧ Below w.heap.size w w' := by
  have h1 := sat_Decimal [.int .i64 n] _ (.str (decT n)) rfl h w (fun _ => True) [.int .i64 n] ⟨hi, hn, fun _ hx => hx.elim⟩ ⟨_, [], rfl, rfl, rfl⟩
  refine h1.mono ?_
  rintro e w' ⟨r, rfl, ⟨u, hr, _⟩, hb⟩
  have hr : r = .string ⟨(decT n).toArray⟩ := hr
  exact ⟨by rw [hr], hb.below⟩
theorem trim_any (s : List UInt8) (w : World) : Calls Tryd.prog 142 #[.string ⟨s.toArray⟩, .string ⟨#[45]⟩] w fun e w' => e = .returned (.string ⟨(Go.Lib.trimPrefix s [45]).toArray⟩) ∧ w' = w :=
  Any.strings_TrimPrefix Tryd.trimP ⟨s.toArray⟩ ⟨#[45]⟩ w
theorem mk_ne {a b : List UInt8} (h : a ≠ b) : (⟨a.toArray⟩ : ByteArray) ≠ ⟨b.toArray⟩ := fun e => h (by have := congrArg (fun x => x.data.toList) e; simpa using this)
set_option maxHeartbeats 1000000 in
theorem readD_walk (s : List UInt8) (hl : s.length ≤ 100000000) (w : World) (hn : GN ≤ w.heap.size) (hi : Inv w) :
    Calls Tryd.prog 92 #[.string ⟨s.toArray⟩] w fun e w' => e = .returned (.tuple #[.int .i64 (readD s).1, .bool (readD s).2]) ∧ Below w.heap.size w w' := by
  have hpi := parseInt_any s hl w hi
  by_cases hok : ∃ v, Go.Lib.parseIntB 64 s = .ok v
  · obtain ⟨v, hv⟩ := hok
    have hb := Go.Lib.parseIntB_bounds hv
    have hb' : -9223372036854775808 ≤ v ∧ v ≤ 9223372036854775807 := by
      have e : ((2 ^ (64 - 1) : Nat) : Int) = 9223372036854775808 := by decide
      omega
    have hpi : Calls Tryd.prog 141 #[.string ⟨s.toArray⟩, .int .i64 10, .int .i64 64] w fun e w' => e = .returned (.tuple #[.int .i64 v, .nilIface]) ∧ Below w.heap.size w w' := hpi.mono fun e w' ⟨h1, h2⟩ => by
      rcases h2 with ⟨v', h3, h4⟩ | ⟨z, t, p, h3, _⟩
      · rw [hv] at h3
        injection h3 with h3
        subst h3
        exact ⟨h4, h1⟩
      · exact (h3 v hv).elim
    have hr : readD s = if decT v = s ∧ (Go.Lib.trimPrefix s [45]).length ≤ 18 then (v, true) else (0, false) := by unfold readD; rw [hv]
    have htl : (⟨(Go.Lib.trimPrefix s [45]).toArray⟩ : ByteArray).size = (Go.Lib.trimPrefix s [45]).length := size_mk _
    by_cases hd : decT v = s
    · by_cases h18 : (Go.Lib.trimPrefix s [45]).length ≤ 18
      · rw [if_pos ⟨hd, h18⟩] at hr
        rw [hr]
        go_enter Tryd.func92, Tryd.ntmps92
        go_wp2_with (first | (go_at_call 141; refine hpi.mono ?_; rintro e w1 ⟨rfl, hb1⟩; have hi1 := below_inv hb1 hn hi; have hn1 := Nat.le_trans hn (Below.size hb1)) | (go_at_call 56; refine (decimal_any v hb' _ hn1 hi1).mono ?_; rw [hd]; rintro e w2 ⟨rfl, hb2⟩) | (go_at_call 142; refine (trim_any s _).mono ?_; rintro e w3 ⟨rfl, rfl⟩))
        exact bodyPost_ret (v := .tuple #[.int .i64 v, .bool true]) (by simp [results, Tryd.results92, go_sem]) rfl ⟨rfl, Below.trans hb1 (Below.mono hb2 (Below.size hb1))⟩
      · rw [if_neg (fun h => h18 h.2)] at hr
        rw [hr]
        go_enter Tryd.func92, Tryd.ntmps92
        go_wp2_with (first | (go_at_call 141; refine hpi.mono ?_; rintro e w1 ⟨rfl, hb1⟩; have hi1 := below_inv hb1 hn hi; have hn1 := Nat.le_trans hn (Below.size hb1)) | (go_at_call 56; refine (decimal_any v hb' _ hn1 hi1).mono ?_; rw [hd]; rintro e w2 ⟨rfl, hb2⟩) | (go_at_call 142; refine (trim_any s _).mono ?_; rintro e w3 ⟨rfl, rfl⟩))
        exact bodyPost_ret (v := .tuple #[.int .i64 0, .bool false]) (by simp [results, Tryd.results92, go_sem]) rfl ⟨rfl, Below.trans hb1 (Below.mono hb2 (Below.size hb1))⟩
    · rw [if_neg (fun h => hd h.1)] at hr
      rw [hr]
      have hd' := mk_ne hd
      go_enter Tryd.func92, Tryd.ntmps92
      go_wp2_with (first | (go_at_call 141; refine hpi.mono ?_; rintro e w1 ⟨rfl, hb1⟩; have hi1 := below_inv hb1 hn hi; have hn1 := Nat.le_trans hn (Below.size hb1)) | (go_at_call 56; refine (decimal_any v hb' _ hn1 hi1).mono ?_; rintro e w2 ⟨rfl, hb2⟩) | (go_at_call 142; refine (trim_any s _).mono ?_; rintro e w3 ⟨rfl, rfl⟩))
      exact bodyPost_ret (v := .tuple #[.int .i64 0, .bool false]) (by simp [results, Tryd.results92, go_sem]) rfl ⟨rfl, Below.trans hb1 (Below.mono hb2 (Below.size hb1))⟩
  · have hr : readD s = (0, false) := by
      unfold readD
      split
      · rename_i v hv; exact (hok ⟨v, hv⟩).elim
      · rfl
    rw [hr]
    have hpi : Calls Tryd.prog 141 #[.string ⟨s.toArray⟩, .int .i64 10, .int .i64 64] w fun e w' => ∃ z t p, e = .returned (.tuple #[.int .i64 z, .iface t p]) ∧ Below w.heap.size w w' := hpi.mono fun e w' ⟨h1, h2⟩ => by
      rcases h2 with ⟨v', h3, h4⟩ | ⟨z, t, p, h3, h4⟩
      · exact (hok ⟨_, h3⟩).elim
      · exact ⟨z, t, p, h4, h1⟩
    go_enter Tryd.func92, Tryd.ntmps92
    go_wp2_with (go_at_call 141; refine hpi.mono ?_; rintro e w1 ⟨z, t, p, rfl, hb1⟩)
    exact bodyPost_ret (v := .tuple #[.int .i64 0, .bool false]) (by simp [results, Tryd.results92, go_sem]) rfl ⟨rfl, hb1⟩
/-- Numerals, read by the program. -/
def ct_ReadDecimal : Ct := ctOf [.v .str] (fun ((s : List UInt8), _) => .p (s.length ≤ 100000000)) (fun ((s : List UInt8), _) => .tup [.int .i64 (readD s).1, .bool (readD s).2])
theorem sat_ReadDecimal : Sat Tryd.prog 92 ct_ReadDecimal := by
  intro args p v hct hp w okc vs hgood hden
  simp only at hct
  split at hct
  · rename_i x hx
    change some (_, _) = some (p, v) at hct
    simp only [Option.some.injEq, Prod.mk.injEq] at hct
    obtain ⟨rfl, rfl⟩ := hct
    have hd := decA_den rfl hx hden
    obtain ⟨(s : List UInt8), _⟩ := x
    have hs : s.length ≤ 100000000 := hp
    obtain ⟨r1, _, rfl, g1, rfl⟩ := hd
    have g1 : r1 = .string ⟨s.toArray⟩ := g1
    subst g1
    exact calls_plain (r := .tuple #[.int .i64 (readD s).1, .bool (readD s).2]) (fun c => ⟨[_, _], rfl, _, _, rfl, rfl, _, _, rfl, rfl, rfl⟩) rfl (readD_walk s hs w hgood.n hgood.inv)
  · simp at hct
end Go.Proofs.YtkeckmdmmbeaiaaDoor
