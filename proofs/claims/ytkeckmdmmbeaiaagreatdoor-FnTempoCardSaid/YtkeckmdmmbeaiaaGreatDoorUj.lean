/- Contracts: strings.Join. Conditions: as each says. -/
import Derived.Test.YtkeckmdmmbeaiaaGreatDoorUf
import Derived.Test.YtkeckmdmmbeaiaaGreatDoorUlyJ
set_option linter.unusedSimpArgs false
set_option linter.unusedVariables false
namespace Go.Proofs.YtkeckmdmmbeaiaaGreatDoor
open Go.RowKit Sx Go.Shelf
theorem Tryz.joinX : Builder.Extra Tryz.prog Tryz.join_ren where
  sizeBuilder := by kernel_rfl
  liesBuilder := by kernel_rfl
  t5 := Tryz.underlying5
  a5 := Tryz.isAgg5
  z5 := Tryz.sizeOf5
  v5 := Tryz.zeroValue5
  infoByte := by kernel_rfl
  cellsByte := by kernel_rfl
  sizeByte := by kernel_rfl
  neB5 := by decide
/-- Words put together. -/
def ct_Join : Ct := ctOf [.v (.seq .str), .v .str] (fun ((xs : List (List UInt8)), (s : List UInt8), _) => .p (xs.length ≤ 1000000 ∧ (Go.Lib.join xs s).length ≤ 140737488355328)) (fun ((xs : List (List UInt8)), (s : List UInt8), _) => .str (Go.Lib.join xs s))
set_option maxRecDepth 100000 in
theorem sat_Join : Sat Tryz.prog 72 ct_Join := by
  intro args p v hct hp w okc vs hgood hden
  simp only at hct
  split at hct
  · rename_i x hx
    change some (_, _) = some (p, v) at hct
    simp only [Option.some.injEq, Prod.mk.injEq] at hct
    obtain ⟨rfl, rfl⟩ := hct
    have hd := decA_den rfl hx hden
    obtain ⟨(xs : List (List UInt8)), (s : List UInt8), _⟩ := x
    obtain ⟨h0, h1⟩ := hp
    have h0 : xs.length ≤ 1000000 := h0
    have h1 : (Go.Lib.join xs s).length ≤ 140737488355328 := h1
    obtain ⟨r1, _, rfl, g1, r2, _, rfl, g2, rfl⟩ := hd
    have g2 : r2 = .string ⟨s.toArray⟩ := g2
    subst g2
    obtain ⟨a, cap, e1, hcap, hrow⟩ := (show Reads w _ (.seq .str) xs [r1] from g1)
    obtain rfl : r1 = .slice a xs.length cap := by simpa using e1
    have em : (xs.map fun l : List UInt8 => (⟨l.toArray⟩ : ByteArray)).map (·.data.toList) = xs := by
      rw [List.map_map]
      exact (List.map_congr_left (fun x _ => by simp)).trans (List.map_id xs)
    rcases hrow with rfl | ⟨b, o, rfl, hb, hc⟩
    · refine calls_str (Calls.mono (Any.strings_Join_none Tryz.join Tryz.joinX a cap ⟨s.toArray⟩ w) ?_)
      rintro e w' ⟨rfl, rfl⟩
      exact ⟨rfl, Below.refl _ _⟩
    · have hj := Any.strings_Join Tryz.join Tryz.joinX b o cap (xs.map fun l : List UInt8 => (⟨l.toArray⟩ : ByteArray)) ⟨s.toArray⟩ w (fun j x hx => ?_) hb.1 (by simp; omega) (by simpa using hcap) (by rw [em]; exact h1)
      · rw [em, List.length_map] at hj
        exact calls_str hj
      · rw [List.getElem?_map] at hx
        obtain ⟨y, hy, rfl⟩ := Option.map_eq_some_iff.1 hx
        obtain ⟨hlt, rfl⟩ := List.getElem?_eq_some_iff.1 hy
        obtain ⟨us, hr, hcl⟩ := hc j hlt
        simp only [Reads] at hr
        subst hr
        have := hcl 0 (by simp)
        simpa [Ty.size] using this
  · simp at hct
end Go.Proofs.YtkeckmdmmbeaiaaGreatDoor
