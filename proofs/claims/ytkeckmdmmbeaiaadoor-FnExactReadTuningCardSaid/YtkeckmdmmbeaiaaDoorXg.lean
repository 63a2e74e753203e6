/- Contracts: one byte looked for, counted, trimmed; numerals read. Conditions: as each says. -/
import Derived.Test.YtkeckmdmmbeaiaaDoorXf
import Derived.Test.YtkeckmdmmbeaiaaDoorUt
set_option linter.unusedSimpArgs false
set_option linter.unusedVariables false
namespace Go.Proofs.YtkeckmdmmbeaiaaDoor
open Go.RowKit Sx Go.Shelf
def ct_IndexByte : Ct := ctOf [.v .str, .v (.int .u8)] (fun _ => .tt) (fun ((s : List UInt8), (c : Int), _) => .int .i64 (Go.Lib.indexByte s c.toNat.toUInt8))
theorem sat_IndexByte : Sat Tryd.prog 89 ct_IndexByte := by
  intro args p v hct hp w okc vs hgood hden
  simp only at hct
  split at hct
  · rename_i x hx
    change some (_, _) = some (p, v) at hct
    simp only [Option.some.injEq, Prod.mk.injEq] at hct
    obtain ⟨rfl, rfl⟩ := hct
    have hd := decA_den rfl hx hden
    obtain ⟨(s : List UInt8), (c : Int), _⟩ := x
    obtain ⟨r1, _, rfl, g1, r2, _, rfl, g2, rfl⟩ := hd
    have g1 : r1 = .string ⟨s.toArray⟩ := g1
    have g2 : r2 = .int .u8 c := g2
    subst g1 g2
    refine calls_plain (fun c => rfl) rfl (Calls.mono (Any.strings_IndexByte Tryd.ixb ⟨s.toArray⟩ c w) ?_)
    rintro e w' ⟨rfl, rfl⟩
    exact ⟨rfl, Below.refl _ _⟩
  · simp at hct
/-- How often a byte stands in a text. -/
def ct_Count : Ct := ctOf [.v .str, .v .str] (fun ((s : List UInt8), (p : List UInt8), _) => .p (p.length = 1)) (fun ((s : List UInt8), (p : List UInt8), _) => .int .i64 (Go.Lib.countByte s (p.headD 0) : Int))
theorem sat_Count : Sat Tryd.prog 91 ct_Count := by
  intro args p v hct hp w okc vs hgood hden
  simp only at hct
  split at hct
  · rename_i x hx
    change some (_, _) = some (p, v) at hct
    simp only [Option.some.injEq, Prod.mk.injEq] at hct
    obtain ⟨rfl, rfl⟩ := hct
    have hd := decA_den rfl hx hden
    obtain ⟨(s : List UInt8), (q : List UInt8), _⟩ := x
    have hp : q.length = 1 := hp
    obtain ⟨c, rfl⟩ : ∃ c, q = [c] := List.length_eq_one_iff.1 hp
    obtain ⟨r1, _, rfl, g1, r2, _, rfl, g2, rfl⟩ := hd
    have g1 : r1 = .string ⟨s.toArray⟩ := g1
    have g2 : r2 = .string ⟨[c].toArray⟩ := g2
    subst g1 g2
    refine calls_plain (fun c => rfl) rfl (Calls.mono (Any.strings_Count_one Tryd.cnt ⟨s.toArray⟩ c w) ?_)
    rintro e w' ⟨rfl, rfl⟩
    exact ⟨rfl, Below.refl _ _⟩
  · simp at hct
def ct_TrimLeft : Ct := ctOf [.v .str, .v .str] (fun ((s : List UInt8), (p : List UInt8), _) => .p (p = [35, 98])) (fun ((s : List UInt8), (p : List UInt8), _) => .str (s.dropWhile fun b => decide (b = 35 ∨ b = 98)))
theorem trimLS (s : List UInt8) : Go.Lib.trimLeftS s [35, 98] = s.dropWhile fun b => decide (b = 35 ∨ b = 98) := by
  unfold Go.Lib.trimLeftS
  congr 1
  funext b
  rw [Bool.eq_iff_iff]
  simp
theorem sat_TrimLeft : Sat Tryd.prog 90 ct_TrimLeft := by
  intro args p v hct hp w okc vs hgood hden
  simp only at hct
  split at hct
  · rename_i x hx
    change some (_, _) = some (p, v) at hct
    simp only [Option.some.injEq, Prod.mk.injEq] at hct
    obtain ⟨rfl, rfl⟩ := hct
    have hd := decA_den rfl hx hden
    obtain ⟨(s : List UInt8), (q : List UInt8), _⟩ := x
    have hp : q = [35, 98] := hp
    subst hp
    obtain ⟨r1, _, rfl, g1, r2, _, rfl, g2, rfl⟩ := hd
    have g1 : r1 = .string ⟨s.toArray⟩ := g1
    have g2 : r2 = .string ⟨[35, 98].toArray⟩ := g2
    subst g1 g2
    refine calls_str (Calls.mono (Any.strings_TrimLeft_laid Tryd.trimL (by kernel_rfl) ⟨s.toArray⟩ ⟨[35, 98].toArray⟩ w (by decide) (fun j b hb => ?_)) ?_)
    · have : b ∈ ([35, 98] : List UInt8) := List.mem_of_getElem? hb
      simp at this
      rcases this with rfl | rfl <;> decide
    · rintro e w' ⟨rfl, hb⟩
      refine ⟨?_, hb⟩
      show Ending.returned (.string ⟨(Go.Lib.trimLeftS s [35, 98]).toArray⟩) = _
      rw [trimLS]
  · simp at hct
end Go.Proofs.YtkeckmdmmbeaiaaDoor
