/- What a law on texts asks of its row: the tables of the library that lie in the world; one world that fits. Conditions: as each says. -/
import Derived.Test.YtkeckmdmmbeaiaaDoorLawJ
import Derived.Test.YtkeckmdmmbeaiaaDoorTie
import Derived.Test.YtkeckmdmmbeaiaaDoorCards
import Derived.SevenTiedAt
import Derived.Lib.LaidTab
import Derived.LaidLaws
set_option linter.unusedSimpArgs false
set_option linter.unusedVariables false
namespace Go.Proofs.YtkeckmdmmbeaiaaDoor
open Go.ChangeShapes Go.WideShapes Go.ChangeAt Go.RowKit Go.Deep Sx
set_option maxRecDepth 100000
theorem inv_of_tab {W : World} {name : String} (hg : Tryd.prog.globalNamed name = some 1) (h : Go.Lib.TabIs Tryd.prog W name .u64 Go.Lib.pow10Tab) : Inv W := by
  unfold Go.Lib.TabIs World.var? at h
  rw [hg] at h
  simp only [Option.bind_some] at h
  split at h
  · rename_i cs e f hh
    exact ⟨e, f, by rw [hh, Option.some.inj h]⟩
  · simp at h
def dataCells : DataW Unit → Array Value
  | .agg xs => (xs.map fun | .lit (.int k z) => Value.int k z | _ => Go.undef).toArray
  | _ => #[]
def laidObj (cs : Array Value) : Obj → Obj
  | .cells _ t fr => .cells cs t fr
  | o => o
/-- The settled world, its tables laid. -/
noncomputable def laidW (os : Os) : World :=
  let w0 := World.holding Tryd.prog os ⟨#[], #[], []⟩
  { w0 with heap := ((w0.heap.modify 6 (laidObj (dataCells Rows.laid_math_bits_deBruijn32tab))).modify 7 (laidObj (dataCells Rows.laid_math_bits_deBruijn64tab))).modify 1 (laidObj (dataCells Rows.laid_internal_strconv_uint64pow10)) }
def laidT : List (String × DataW Unit) := Rows.fnExactPitchTextRow.laid
theorem laidW_met (os : Os) (args : Array Value) : laidMet Tryd.prog laidT ((laidW os).forCall (fun _ _ => 0) ⟨#[], args, []⟩).memory :=
  laidMet_of_run' 8 (by kernel_rfl) (by kernel_rfl)
theorem pow10_data : (Rows.laid_internal_strconv_uint64pow10 : DataW Unit) = Go.Lib.tabData .u64 Go.Lib.pow10Tab := by kernel_rfl
theorem laid_inv {W : World} (h : laidMet Tryd.prog laidT W) : Inv W ∧ GN ≤ W.heap.size := by
  obtain ⟨ps, ⟨g1, t1, c1, f1, p1, q1, hg1, ht1, hv1, hd1, ⟨g2, t2, c2, f2, p2, q2, hg2, ht2, hv2, hd2, ⟨g3, t3, c3, f3, p3, q3, hg3, ht3, hv3, hd3, _, _⟩, _⟩, _⟩, _⟩ := h
  have k2 : Tryd.prog.globalNamed (laidT.getD 1 ("x", .lit (.bool true))).1 = some 7 := by kernel_rfl
  have e2 : some g2 = some 7 := hg2.symm.trans k2
  have k3 : Tryd.prog.globalNamed (laidT.getD 2 ("x", .lit (.bool true))).1 = some 1 := by kernel_rfl
  have e3 : g3 = 1 := Option.some.inj (hg3.symm.trans k3)
  subst e3
  have kt : (Tryd.prog.globals[1]?).map (·.type) = some 222 := by kernel_rfl
  have et := Option.some.inj (ht3.symm.trans kt)
  subst et
  rw [pow10_data] at hd3
  have hc := Go.Lib.cells_of_tab (k := .u64) Tryd.underlying222 Tryd.underlying177 (by kernel_rfl) (by kernel_rfl) hd3
  refine ⟨inv_of_tab k3 ?_, ?_⟩
  · unfold Go.Lib.TabIs
    refine Eq.trans hv3 ?_
    rw [← hc]
  · have e2' := Option.some.inj e2
    subst e2'
    have hv := hv2
    unfold World.var? at hv
    rw [hg2] at hv
    simp only [Option.bind_some] at hv
    split at hv
    · rename_i cs e f hh
      exact (Array.getElem?_eq_some_iff.1 hh).1
    · simp at hv
/-- A law's contract: true, whatever the data. -/
theorem law_callsD {f : FuncId} {l : List Sh} {w : World} {pre : Args l → Nd} (hs : Sat Tryd.prog f (ctOf l pre fun _ => .bool true)) {args : Array Value} {x : Args l} (hL : laidMet Tryd.prog laidT w) (hp : (pre x).ok) (hd : DenL (pureCx w) (encA l x) args.toList) (hdec : decA l (encA l x) = some x) (hno : noOwn l = true := by rfl) :
    Calls Tryd.prog f args w fun e w' => e = .returned (.bool true) ∧ Below w.heap.size w w' := by
  have hI := laid_inv hL
  have h := hs (encA l x) (pre x) (.bool true) (by simp [hdec, hno]) hp w _ args.toList ⟨hI.1, hI.2, fun _ hx => hx.elim⟩ hd
  rw [Array.toArray_toList] at h
  refine h.mono ?_
  rintro e w' ⟨r, rfl, ⟨u, hr, _⟩, hb⟩
  have hr : r = .bool true := hr
  exact ⟨by rw [hr], hb.below⟩
end Go.Proofs.YtkeckmdmmbeaiaaDoor
