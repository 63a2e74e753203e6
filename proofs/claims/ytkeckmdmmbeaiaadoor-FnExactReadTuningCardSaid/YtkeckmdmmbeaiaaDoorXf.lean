/- Contracts: strings cut, split, trimmed, searched for one byte. Conditions: as each says. -/
import Derived.Test.YtkeckmdmmbeaiaaDoorXaL
import Derived.Test.YtkeckmdmmbeaiaaDoorUf
import Derived.Test.YtkeckmdmmbeaiaaDoorUlyR
set_option linter.unusedSimpArgs false
set_option linter.unusedVariables false
namespace Go.Proofs.YtkeckmdmmbeaiaaDoor
open Go.RowKit Sx Go.Shelf
/-- A plain value comes back, nothing else has turned. -/
theorem calls_plain {f : FuncId} {w : World} {args : Array Value} {v : AV} {r : Value} {okc : Nat → Prop} (hg : ∀ c, Den c (rowed 0 v) r) (ho : ownsOf v = []) (h : Calls Tryd.prog f args w fun e w' => e = .returned r ∧ Below w.heap.size w w') :
    Calls Tryd.prog f args w fun e w' => ∃ r, e = .returned r ∧ Gives (Base.of w.heap.size okc) w' v r ∧ Bel (Base.of w.heap.size okc) w w' := by
  refine h.mono ?_
  rintro e w' ⟨rfl, hb⟩
  exact ⟨_, rfl, ⟨Go.undef, hg _, fun _ => rfl, fun t xs hx => by rw [ho] at hx; simp at hx⟩, hb.os, hb.tape, hb.output, hb.size, fun k hk _ => hb.block k hk⟩
theorem below_drewN (w : World) (n : Nat) : Below w.heap.size w (w.drewN n) := ⟨rfl, rfl, rfl, Nat.le_refl _, fun _ _ => rfl⟩
theorem maxlen_of_inv {W : World} (h : Inv W) : ∃ m, W.cell? ⟨0, 0, none⟩ = some (.int .i64 m) := h.2.1
theorem size_mk (s : List UInt8) : (⟨s.toArray⟩ : ByteArray).size = s.length := by show s.toArray.size = _; simp
def ct_TrimPrefix : Ct := ctOf [.v .str, .v .str] (fun _ => .tt) (fun ((s : List UInt8), (p : List UInt8), _) => .str (Go.Lib.trimPrefix s p))
theorem sat_TrimPrefix : Sat Tryd.prog 142 ct_TrimPrefix := by
  intro args p v hct hp w okc vs hgood hden
  simp only at hct
  split at hct
  · rename_i x hx
    change some (_, _) = some (p, v) at hct
    simp only [Option.some.injEq, Prod.mk.injEq] at hct
    obtain ⟨rfl, rfl⟩ := hct
    have hd := decA_den rfl hx hden
    obtain ⟨(s : List UInt8), (q : List UInt8), _⟩ := x
    obtain ⟨r1, _, rfl, g1, r2, _, rfl, g2, rfl⟩ := hd
    have g1 : r1 = .string ⟨s.toArray⟩ := g1
    have g2 : r2 = .string ⟨q.toArray⟩ := g2
    subst g1 g2
    refine calls_str (Calls.mono (Any.strings_TrimPrefix Tryd.trimP ⟨s.toArray⟩ ⟨q.toArray⟩ w) ?_)
    rintro e w' ⟨rfl, rfl⟩
    exact ⟨rfl, Below.refl _ _⟩
  · simp at hct
def ct_Cut : Ct := ctOf [.v .str, .v .str] (fun ((s : List UInt8), (p : List UInt8), _) => .p (s.length ≤ 4000000000)) (fun ((s : List UInt8), (p : List UInt8), _) => .tup [.str (Go.Lib.cut s p).1, .str (Go.Lib.cut s p).2.1, .bool (Go.Lib.cut s p).2.2])
theorem sat_Cut : Sat Tryd.prog 145 ct_Cut := by
  intro args p v hct hp w okc vs hgood hden
  simp only at hct
  split at hct
  · rename_i x hx
    change some (_, _) = some (p, v) at hct
    simp only [Option.some.injEq, Prod.mk.injEq] at hct
    obtain ⟨rfl, rfl⟩ := hct
    have hd := decA_den rfl hx hden
    obtain ⟨(s : List UInt8), (q : List UInt8), _⟩ := x
    have hs : s.length ≤ 4000000000 := hp
    obtain ⟨r1, _, rfl, g1, r2, _, rfl, g2, rfl⟩ := hd
    have g1 : r1 = .string ⟨s.toArray⟩ := g1
    have g2 : r2 = .string ⟨q.toArray⟩ := g2
    subst g1 g2
    obtain ⟨m, hm⟩ := maxlen_of_inv hgood.inv
    refine calls_plain (r := .tuple #[.string ⟨(Go.Lib.cut s q).1.toArray⟩, .string ⟨(Go.Lib.cut s q).2.1.toArray⟩, .bool (Go.Lib.cut s q).2.2]) (fun c => ?_) rfl (Calls.mono (Any.strings_Cut Tryd.cut ⟨s.toArray⟩ ⟨q.toArray⟩ m w (by rw [size_mk]; omega) hm) ?_)
    rotate_left
    · rintro e w' ⟨rfl, n, rfl⟩
      exact ⟨rfl, below_drewN _ _⟩
    · exact ⟨[_, _, _], rfl, _, _, rfl, rfl, _, _, rfl, rfl, _, _, rfl, rfl, rfl⟩
  · simp at hct
def ct_Split : Ct := ctOf [.v .str, .v .str] (fun ((s : List UInt8), (p : List UInt8), _) => .p (s.length ≤ 4000000000 ∧ 1 ≤ p.length)) (fun ((s : List UInt8), (p : List UInt8), _) => .view .str (Go.Lib.split s p))
theorem sat_Split : Sat Tryd.prog 129 ct_Split := by
  intro args p v hct hp w okc vs hgood hden
  simp only at hct
  split at hct
  · rename_i x hx
    change some (_, _) = some (p, v) at hct
    simp only [Option.some.injEq, Prod.mk.injEq] at hct
    obtain ⟨rfl, rfl⟩ := hct
    have hd := decA_den rfl hx hden
    obtain ⟨(s : List UInt8), (q : List UInt8), _⟩ := x
    obtain ⟨hs, hq⟩ := hp
    have hs : s.length ≤ 4000000000 := hs
    have hq : 1 ≤ q.length := hq
    obtain ⟨r1, _, rfl, g1, r2, _, rfl, g2, rfl⟩ := hd
    have g1 : r1 = .string ⟨s.toArray⟩ := g1
    have g2 : r2 = .string ⟨q.toArray⟩ := g2
    subst g1 g2
    obtain ⟨m, hm⟩ := maxlen_of_inv hgood.inv
    refine Calls.mono (Any.strings_Split Tryd.split (by kernel_rfl) ⟨s.toArray⟩ ⟨q.toArray⟩ m w (by rw [size_mk]; omega) hm (by rw [size_mk]; exact hq)) ?_
    rintro e w' ⟨rfl, rfl⟩
    have he : (Go.Lib.splitB ⟨q.toArray⟩ 0 (Go.Lib.countB ⟨s.toArray⟩ ⟨q.toArray⟩) ⟨s.toArray⟩).map (·.data.toList) = Go.Lib.split s q := by
      rw [Go.Lib.splitB_data]; rfl
    have hlen := Go.Lib.splitB_all ⟨q.toArray⟩ (by rw [size_mk]; exact hq) 0 _ (⟨s.toArray⟩ : ByteArray) rfl
    generalize Go.Lib.splitB ⟨q.toArray⟩ 0 (Go.Lib.countB ⟨s.toArray⟩ ⟨q.toArray⟩) ⟨s.toArray⟩ = B at *
    have hl2 : (Go.Lib.split s q).length = Go.Lib.countB ⟨s.toArray⟩ ⟨q.toArray⟩ + 1 := by rw [← he, List.length_map, hlen]
    have hsz : (w.alloc (.cells (B.map Value.string).toArray 9)).heap.size = w.heap.size + 1 := by simp
    refine ⟨_, rfl, ⟨Go.undef, ?_, fun _ => rfl, fun t xs hx => by simp [ownsOf] at hx⟩, Bel.alloc (Bel.refl _ _) (Nat.le_refl _) _⟩
    refine ⟨_, _, by rw [← hl2], by rw [hl2]; exact Nat.le_refl _, .inr ⟨w.heap.size, 0, rfl, ⟨.inl (.inl (Nat.le_refl _)), Nat.lt_of_lt_of_le (Nat.lt_succ_self _) (Nat.le_of_eq hsz.symm), by simp [blkOf, Go.undef]⟩, fun i hi => ⟨_, rfl, fun j hj => ?_⟩⟩⟩
    have hj0 : j = 0 := by simp at hj; exact hj
    subst hj0
    have hi' : i < B.length := by rw [← he, List.length_map] at hi; exact hi
    have hc : (w.alloc (.cells (B.map Value.string).toArray 9)).cell? ⟨w.heap.size, 0 + i * Ty.str.size + 0, none⟩ = (B.map Value.string).toArray[i]? := by
      rw [show 0 + i * Ty.str.size + 0 = i by simp [Ty.size]]
      exact World.cell?_alloc_new _ _ _ _
    refine hc.trans ?_
    simp only [List.getElem?_toArray, List.getElem?_map, List.getElem?_eq_getElem hi', Option.map_some, List.getElem_cons_zero]
    have hx : (Go.Lib.split s q)[i]'hi = B[i].data.toList := by
      have e2 : (Go.Lib.split s q)[i]? = some (B[i].data.toList) := by rw [← he, List.getElem?_map, List.getElem?_eq_getElem hi']; rfl
      rw [List.getElem?_eq_getElem hi] at e2
      exact Option.some.inj e2
    rw [hx]
  · simp at hct
end Go.Proofs.YtkeckmdmmbeaiaaDoor
