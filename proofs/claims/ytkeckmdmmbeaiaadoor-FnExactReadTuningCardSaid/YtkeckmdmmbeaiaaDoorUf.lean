/- Contracts: strconv.FormatInt at base 10, strings.Repeat. Conditions: as each says. -/
import Derived.Test.YtkeckmdmmbeaiaaDoorUaL
import Derived.Test.YtkeckmdmmbeaiaaDoorUly
import Derived.Lib.LaidTab
set_option linter.unusedSimpArgs false
set_option linter.unusedVariables false
namespace Go.Proofs.YtkeckmdmmbeaiaaDoor
open Go.RowKit Sx Go.Shelf
theorem tab_of_inv {W : World} {name : String} (hg : Tryd.prog.globalNamed name = some 1) (h : Inv W) : Go.Lib.TabIs Tryd.prog W name .u64 Go.Lib.pow10Tab := by
  obtain ⟨e, f, hh⟩ := h.1
  unfold Go.Lib.TabIs World.var?
  rw [hg]
  simp only [Option.bind_some]
  rw [hh]
/-- A string comes back, nothing else has turned. -/
theorem calls_str {f : FuncId} {w : World} {args : Array Value} {s : List UInt8} {okc : Nat → Prop} (h : Calls Tryd.prog f args w fun e w' => e = .returned (.string ⟨s.toArray⟩) ∧ Below w.heap.size w w') :
    Calls Tryd.prog f args w fun e w' => ∃ r, e = .returned r ∧ Gives (Base.of w.heap.size okc) w' (.str s) r ∧ Bel (Base.of w.heap.size okc) w w' := by
  refine h.mono ?_
  rintro e w' ⟨rfl, hb⟩
  exact ⟨_, rfl, ⟨Go.undef, rfl, fun _ => rfl, fun t xs hx => by simp [ownsOf] at hx⟩, hb.os, hb.tape, hb.output, hb.size, fun k hk _ => hb.block k hk⟩
theorem below_grow {w : World} (k : Nat) (os : Array Obj) : Below w.heap.size w (Go.Sort.grow (w.drewN k) os) :=
  ⟨rfl, rfl, rfl, by unfold Go.Sort.grow; rw [Array.size_append]; exact Nat.le_add_right _ _, fun b hb => Go.Sort.heap_grow_old _ _ hb⟩
def ct_FormatInt : Ct := ctOf [.v (.int .i64), .v (.int .i64)] (fun ((n : Int), (b : Int), _) => .p (b = 10 ∧ -9223372036854775808 ≤ n ∧ n ≤ 9223372036854775807)) (fun ((n : Int), (b : Int), _) => .str (decT n))
theorem sat_FormatInt : Sat Tryd.prog 108 ct_FormatInt := by
  intro args p v hct hp w okc vs hgood hden
  simp only at hct
  split at hct
  · rename_i x hx
    change some (_, _) = some (p, v) at hct
    simp only [Option.some.injEq, Prod.mk.injEq] at hct
    obtain ⟨rfl, rfl⟩ := hct
    have hd := decA_den rfl hx hden
    obtain ⟨(n : Int), (b : Int), _⟩ := x
    obtain ⟨h10, h0, h1⟩ := hp
    have h10 : b = 10 := h10
    subst h10
    obtain ⟨r1, _, rfl, g1, r2, _, rfl, g2, rfl⟩ := hd
    have g1 : r1 = .int .i64 n := g1
    have g2 : r2 = .int .i64 10 := g2
    subst g1 g2
    refine calls_str (Calls.mono (Any.strconv_FormatInt_10 Tryd.fmtInt n h0 h1 w (tab_of_inv (by kernel_rfl) hgood.inv)) ?_)
    rintro e w' ⟨rfl, k, os, rfl⟩
    exact ⟨rfl, below_grow k os⟩
  · simp at hct
theorem Tryd.repX : Builder.Extra Tryd.prog Tryd.rep_ren where
  sizeBuilder := by kernel_rfl
  liesBuilder := by kernel_rfl
  t5 := Tryd.underlying5
  a5 := Tryd.isAgg5
  z5 := Tryd.sizeOf5
  v5 := Tryd.zeroValue5
  infoByte := by kernel_rfl
  cellsByte := by kernel_rfl
  sizeByte := by kernel_rfl
  neB5 := by decide
/-- A short string, some times over. -/
def ct_Repeat : Ct := ctOf [.v .str, .v (.int .i64)] (fun ((s : List UInt8), (n : Int), _) => .p (1 ≤ s.length ∧ s.length ≤ 1000 ∧ 0 ≤ n ∧ n ≤ 1000)) (fun ((s : List UInt8), (n : Int), _) => .str (Go.Lib.repeatL s n.toNat))
set_option maxRecDepth 100000 in
theorem sat_Repeat : Sat Tryd.prog 107 ct_Repeat := by
  intro args p v hct hp w okc vs hgood hden
  simp only at hct
  split at hct
  · rename_i x hx
    change some (_, _) = some (p, v) at hct
    simp only [Option.some.injEq, Prod.mk.injEq] at hct
    obtain ⟨rfl, rfl⟩ := hct
    have hd := decA_den rfl hx hden
    obtain ⟨(s : List UInt8), (n : Int), _⟩ := x
    obtain ⟨hs0, hs1, h0, h1⟩ := hp
    have hs0 : 1 ≤ s.length := hs0
    have hs1 : s.length ≤ 1000 := hs1
    have h0 : 0 ≤ n := h0
    have h1 : n ≤ 1000 := h1
    obtain ⟨r1, _, rfl, g1, r2, _, rfl, g2, rfl⟩ := hd
    have g1 : r1 = .string ⟨s.toArray⟩ := g1
    have g2 : r2 = .int .i64 n := g2
    subst g1 g2
    obtain ⟨c, rfl⟩ := Int.eq_ofNat_of_zero_le h0
    have hsz : (⟨s.toArray⟩ : ByteArray).size = s.length := by show s.toArray.size = _; simp
    match c, h1 with
    | 0, _ =>
      refine calls_str (Calls.mono (Any.strings_Repeat_zero Tryd.rep ⟨s.toArray⟩ w) ?_)
      rintro e w' ⟨rfl, rfl⟩
      exact ⟨rfl, Below.refl _ _⟩
    | 1, _ =>
      refine calls_str (Calls.mono (Any.strings_Repeat_one Tryd.rep ⟨s.toArray⟩ w) ?_)
      rintro e w' ⟨rfl, rfl⟩
      refine ⟨?_, Below.refl _ _⟩
      show Ending.returned (.string ⟨s.toArray⟩) = .returned (.string ⟨(Go.Lib.repeatL s 1).toArray⟩)
      simp [Go.Lib.repeatL]
    | c + 2, h1 =>
      have hm : s.length * (c + 2) ≤ 1000 * 1000 := Nat.mul_le_mul hs1 (by omega)
      exact calls_str (Any.strings_Repeat_main Tryd.rep Tryd.repX ⟨s.toArray⟩ (c + 2) w (by omega) (by omega) (by rw [hsz]; omega) (by rw [hsz]; omega))
  · simp at hct
end Go.Proofs.YtkeckmdmmbeaiaaDoor
